/- Several texts in one, without what this claim does not use (tools/shake.py). -/
import Derived.Test.YtleljbiejeofgaaGreatDoorKa9
set_option linter.unusedSectionVars false
set_option linter.unusedVariables false
set_option linter.unusedSimpArgs false
section
namespace Go.Proofs.YtleljbiejeofgaaGreatDoor.Pe
open Go Go.RowKit Co Sg Ac
variable [Tab]
set_option maxRecDepth 100000
set_option maxHeartbeats 4000000
abbrev boxV (b : Box) : AV := .agg [.st b.nonce, .st b.data, .st b.tag]
abbrev wrapV (w : Wrap) : AV := .agg [.it .i64 w.to, .it .i64 w.eph, .st w.box.nonce, .st w.box.data, .st w.box.tag]
abbrev wraps (m : Mode) (l : List Wrap) : AV := .sl m (l.map wrapV)
abbrev actL (a : Ac.Act) : List AV := [.st a.author, .it .i64 a.seq, .st a.prev, .it .i64 a.kind, .it .i64 a.time, .st a.object, .st a.target, .it .i64 a.scope, .st a.group, sls a.to, .st a.text, .st a.body.nonce, .st a.body.data, .st a.body.tag, .it .i64 a.epoch, .sl .ro (a.wraps.map wrapV), .it .i64 a.n, .it .i64 a.m, .it .i64 a.sig.e, .it .i64 a.sig.s]
abbrev actV (a : Ac.Act) : AV := .agg [.st a.author, .it .i64 a.seq, .st a.prev, .it .i64 a.kind, .it .i64 a.time, .st a.object, .st a.target, .it .i64 a.scope, .st a.group, sls a.to, .st a.text, .st a.body.nonce, .st a.body.data, .st a.body.tag, .it .i64 a.epoch, .sl .ro (a.wraps.map wrapV), .it .i64 a.n, .it .i64 a.m, .it .i64 a.sig.e, .it .i64 a.sig.s]
structure Sz (a : Ac.Act) : Prop where
 author : a.author.length ≤ 140737488355328
 target : a.target.length ≤ 140737488355328
 group : a.group.length ≤ 140737488355328
 text : a.text.length ≤ 140737488355328
 tos : ∀ s ∈ a.to, s.length ≤ 140737488355328
 to : a.to.length ≤ 140737488355328
 wraps : a.wraps.length ≤ 140737488355328
theorem nilD (s : By) : (s == []) = decide (s = []) := by rw [Bool.eq_iff_iff]; simp
theorem zeroD (n : Int) : (n == 0) = decide (n = 0) := rfl
theorem lenD {α : Type} (l : List α) [DecidableEq α] : ((l.length : Int) == 0) = decide (l = []) := by
 cases l with
 | nil => rfl
 | cons a l =>
  rw [show ((((a :: l).length : Nat) : Int) == 0) = false from beqF (by simp only [List.length_cons]; omega)]
  simp
theorem dig_eq (s : By) : dig s = ((s.length : Int) == 32) := by
 unfold dig
 rw [Bool.eq_iff_iff]
 simp only [decide_eq_true_eq, beq_iff_eq]
 omega
theorem short_eq (s : By) : short s = decide ((s.length : Int) ≤ 500) := by
 unfold short
 rw [Bool.eq_iff_iff]
 simp only [decide_eq_true_eq]
 omega
theorem box0_eq (b : Box) : decide (b = box0) = ((b.nonce == []) && ((b.data == []) && (b.tag == []))) := by
 obtain ⟨x, y, z⟩ := b
 rw [Bool.eq_iff_iff]
 simp [box0]
theorem within_c (n lo hi : Int) : AC Tryz.prog 208 [.it .i64 n, .it .i64 lo, .it .i64 hi] [] (.bo (wi n lo hi)) [] := by
 refine AC.enter [] [] Tryz.func208 rfl (by decide) (by decide) (Nat.le_of_ble_eq_true rfl) (by kernel_rfl) ?_; refine zev ?_
 unfold wi
 by_cases h : lo ≤ n
 ·rw [decide_eq_true h]
  refine run ?_
  exact er0
 ·rw [decide_eq_false h]
  refine run ?_
  exact er0
theorem isDigest_c (s : By) : AC Tryz.prog 232 [.st s] [] (.bo (dig s)) [] := by
 refine AC.enter [] [] Tryz.func232 rfl (by decide) (by decide) (Nat.le_of_ble_eq_true rfl) (by kernel_rfl) ?_; refine zev ?_
 rw [dig_eq]
 refine run ?_
 exact er0
theorem isShort_c (s : By) : AC Tryz.prog 238 [.st s] [] (.bo (short s)) [] := by
 refine AC.enter [] [] Tryz.func238 rfl (by decide) (by decide) (Nat.le_of_ble_eq_true rfl) (by kernel_rfl) ?_; refine zev ?_
 rw [short_eq]
 refine run ?_
 exact er0
theorem isPublic_c (n : Int) : AC Tryz.prog 254 [.it .i64 n] [] (.bo (pub n)) [] := by
 refine AC.enter [208] [] Tryz.func254 rfl (by decide) (by decide) (Nat.le_of_ble_eq_true rfl) (by kernel_rfl) ?_; refine zev ?_
 refine run ?_
 refine cp (within_c n 1 2305843009213693950) ?_
 refine run ?_
 exact er0
theorem isSealed_c (b : Box) : AC Tryz.prog 253 [boxV b] [] (.bo (sealedB b)) [] := by
 refine AC.enter [238] [] Tryz.func253 rfl (by decide) (by decide) (Nat.le_of_ble_eq_true rfl) (by kernel_rfl) ?_; refine zev ?_
 unfold sealedB
 by_cases h1 : b.nonce.length = 32
 ·rw [decide_eq_true h1]
  by_cases h2 : b.tag.length = 16
  ·rw [decide_eq_true h2]
   refine run ?_
   refine cp (isShort_c b.data) ?_
   refine run ?_
   exact er0
  ·rw [decide_eq_false h2]
   refine run ?_
   exact er0
 ·rw [decide_eq_false h1]
  refine run ?_
  exact er0
theorem wrapped_c (a : Ac.Act) (hw : a.wraps.length ≤ 140737488355328) : AC Tryz.prog 255 [actV a] [] (.bo (wrapped a)) [] := by
 refine AC.enter [254, 253] [] Tryz.func255 rfl (by decide) (by decide) (Nat.le_of_ble_eq_true rfl) (by kernel_rfl) ?_; refine zev ?_
 unfold wrapped
 have hsz : allSz 5 (a.wraps.map wrapV) = true := allSz_map 5 wrapV (fun _ => rfl) _
 refine run ?_
 refine loop_mk (fun m e S => e 1 = .ptr 0 0 ∧ e 6 = .sl .ro (a.wraps.map wrapV) ∧ e 7 = .it .i64 (a.wraps.length : Int) ∧ ∃ (k : Nat) (T : Store), e 8 = .it .i64 (k : Int) ∧ S = .cells (actL a) :: T ∧ k ≤ a.wraps.length ∧ (∀ j (h : j < a.wraps.length), j < k → wrapR a.wraps[j] = true) ∧ m = a.wraps.length - k) a.wraps.length
  ⟨zsl, zsl, zsl, 0, [], zsl, rfl, by omega, fun j _ h => absurd h (Nat.not_lt_zero _), rfl⟩ ?_
 rintro m e S ⟨s1, s6, s7, k, T, s8, rfl, hk, hall, rfl⟩
 by_cases hlt : k < a.wraps.length
 rotate_left
 ·obtain rfl : k = a.wraps.length := by omega
  have h1 : a.wraps.all wrapR = true := List.all_eq_true.2 fun x hx => by
   obtain ⟨j, hj, rfl⟩ := List.getElem_of_mem hx
   exact hall j hj hj
  have h2 : decide (a.wraps.length = a.to.length) = ((a.wraps.length : Int) == (a.to.length : Int)) := by
   rw [Bool.eq_iff_iff]
   simp only [decide_eq_true_eq, beq_iff_eq]
   omega
  rw [h1, h2]
  refine runf (an @s1 (an @s6 (an @s7 @s8))) ?_
  exact er0
 have hg : a.wraps[k]? = some a.wraps[k] := List.getElem?_eq_getElem hlt
 have hbad : wrapR a.wraps[k] = false → a.wraps.all wrapR = false := fun h => List.all_eq_false.2 ⟨_, List.getElem_mem hlt, by simp [h]⟩
 have hnext : wrapR a.wraps[k] = true → ∀ j (h : j < a.wraps.length), j < k + 1 → wrapR a.wraps[j] = true := fun hb j h hj => by
  by_cases e : j = k
  ·subst e; exact hb
  ·exact hall j h (by omega)
 generalize a.wraps[k] = x at *
 have hT1 : ∀ y : SObj, (T ++ [y])[T.length]? = some y := fun y => by simp
 have hT2 : ∀ y z : SObj, (T ++ [y]).set T.length z = T ++ [z] := fun y z => by simp
 have hwx : wrapR x = (pub x.to && pub x.eph && sealedB x.box) := rfl
 rw [hwx] at hbad hnext
 refine runf (an @s1 (an @s6 (an @s7 (an @s8 (an @hg (an @hsz (an @hT1 @hT2))))))) ?_
 refine cp (isPublic_c x.to) ?_
 cases h1 : pub x.to with
 | false =>
  rw [h1] at hbad
  rw [hbad rfl]
  refine runf (an @s1 (an @s6 (an @s7 (an @s8 (an @hT1 @hT2))))) ?_
  exact er0
 | true =>
  refine runf (an @s1 (an @s6 (an @s7 (an @s8 (an @hT1 @hT2))))) ?_
  refine cp (isPublic_c x.eph) ?_
  cases h2 : pub x.eph with
  | false =>
   rw [h1, h2] at hbad
   rw [hbad rfl]
   refine runf (an @s1 (an @s6 (an @s7 (an @s8 (an @hT1 @hT2))))) ?_
   exact er0
  | true =>
   refine runf (an @s1 (an @s6 (an @s7 (an @s8 (an @hT1 @hT2))))) ?_
   refine cp (isSealed_c x.box) ?_
   cases h3 : sealedB x.box with
   | false =>
    rw [h1, h2, h3] at hbad
    rw [hbad rfl]
    refine runf (an @s1 (an @s6 (an @s7 (an @s8 (an @hT1 @hT2))))) ?_
    exact er0
   | true =>
    rw [h1, h2, h3] at hnext
    refine runf (an @s1 (an @s6 (an @s7 (an @s8 (an @hT1 @hT2))))) ?_
    exact round_mk (a.wraps.length - (k + 1)) (by omega) ⟨zsl, zsl, zsl, k + 1, _, zsl, rfl, by omega, hnext rfl, rfl⟩
theorem sealedScope_c (sc : Int) (g : By) (hg : g.length ≤ 140737488355328) : AC Tryz.prog 252 [.it .i64 sc, .st g] [] (.bo (sealedSc sc g)) [] := by
 refine AC.enter [240] [] Tryz.func252 rfl (by decide) (by decide) (Nat.le_of_ble_eq_true rfl) (by kernel_rfl) ?_; refine zev ?_
 unfold sealedSc
 have hn := nilD
 by_cases h2 : sc = 2
 ·rw [if_pos h2]
  refine run ?_
  refine cp (name_c g hg) ?_
  refine run ?_
  exact er0
 rw [if_neg h2]
 by_cases h1 : sc = 1
 ·rw [if_pos (.inl h1)]
  refine runf @hn ?_
  exact er0
 by_cases h3 : sc = 3
 ·rw [if_pos (.inr h3)]
  refine runf @hn ?_
  exact er0
 ·rw [if_neg (by omega)]
  refine run ?_
  exact er0
theorem audience_c (a : Ac.Act) (h : Sz a) : AC Tryz.prog 235 [actV a] [] (.bo (audience a)) [] := by
 refine AC.enter [243, 238, 252, 208, 253] [] Tryz.func235 rfl (by decide) (by decide) (Nat.le_of_ble_eq_true rfl) (by kernel_rfl) ?_; refine zev ?_
 unfold audience
 have hn := nilD
 have hz := zeroD
 have hb := box0_eq a.body
 have hl := lenD a.to
 refine run ?_
 refine cp (ids_c a.to h.tos h.to) ?_
 cases h0 : idsR a.to with
 | false =>
  refine run ?_
  exact er0
 | true =>
  by_cases hs : a.scope = 0
  ·rw [if_pos hs]
   by_cases h1 : a.group = []
   rotate_left
   ·rw [decide_eq_false h1]
    refine runf (an @hn @h1) ?_
    exact er0
   by_cases h2 : a.epoch = 0
   rotate_left
   ·rw [decide_eq_true h1, decide_eq_false h2]
    refine runf (an @hn @h1) ?_
    exact er0
   rw [decide_eq_true h1, decide_eq_true h2]
   refine runf (an @hn @h1) ?_
   refine cp (isShort_c a.text) ?_
   cases h3 : short a.text with
   | false =>
    refine run ?_
    exact er0
   | true =>
    rw [hb]
    refine run ?_
    exact er0
  ·rw [if_neg hs]
   by_cases h1 : a.to = [] ∨ a.scope = 3
   rotate_left
   ·have h2 : a.to ≠ [] := fun e => h1 (.inl e)
    have h3 : a.scope ≠ 3 := fun e => h1 (.inr e)
    have h4 : (0 : Int) < (a.to.length : Int) := by have := List.length_pos_iff.2 h2; omega
    rw [decide_eq_false h2, decide_eq_false h3]
    refine runf @h4 ?_
    exact er0
   have e1 : (decide (a.to = []) || decide (a.scope = 3)) = true := by simpa using h1
   rw [e1]
   have hgo : ∀ G : Prop, (a.to = [] → G) → (a.to ≠ [] → a.scope = 3 → G) → G := fun G g1 g2 => by
    by_cases e : a.to = []
    ·exact g1 e
    ·exact g2 e (h1.resolve_left e)
   refine hgo _ (fun e => ?_) (fun e e3 => ?_)
   focus
    have h4 : ¬ (0 : Int) < (a.to.length : Int) := by rw [e]; simp
    refine runf @h4 ?_
   rotate_left
   focus
    have h4 : (0 : Int) < (a.to.length : Int) := by have := List.length_pos_iff.2 e; omega
    refine runf (an @h4 @e3) ?_
    rw [← e3]
   all_goals
    refine cp (sealedScope_c a.scope a.group h.group) ?_
    cases h5 : sealedSc a.scope a.group with
    | false =>
     refine run ?_
     exact er0
    | true =>
     refine run ?_
     refine cp (within_c a.epoch 0 1073741824) ?_
     cases h6 : wi a.epoch 0 1073741824 with
     | false =>
      refine run ?_
      exact er0
     | true =>
      by_cases h7 : a.text = []
      rotate_left
      ·rw [decide_eq_false h7]
       refine runf (an @hn @h7) ?_
       exact er0
      rw [decide_eq_true h7]
      refine runf (an @hn @h7) ?_
      refine cp (isSealed_c a.body) ?_
      refine run ?_
      exact er0
theorem object_c (a : Ac.Act) : AC Tryz.prog 234 [actV a] [] (.bo (dig a.object)) [] := by
 refine AC.enter [232] [] Tryz.func234 rfl (by decide) (by decide) (Nat.le_of_ble_eq_true rfl) (by kernel_rfl) ?_; refine zev ?_
 refine run ?_
 refine cp (isDigest_c a.object) ?_
 refine run ?_
 exact er0
theorem target_c (a : Ac.Act) (h : Sz a) : AC Tryz.prog 236 [actV a] [] (.bo (idR a.target)) [] := by
 refine AC.enter [206] [] Tryz.func236 rfl (by decide) (by decide) (Nat.le_of_ble_eq_true rfl) (by kernel_rfl) ?_; refine zev ?_
 refine run ?_
 refine cp (idright_c a.target h.target) ?_
 refine run ?_
 exact er0
theorem home_c (a : Ac.Act) : AC Tryz.prog 241 [actV a] [] (.bo (home a)) [] := by
 refine AC.enter [254, 208] [] Tryz.func241 rfl (by decide) (by decide) (Nat.le_of_ble_eq_true rfl) (by kernel_rfl) ?_; refine zev ?_
 unfold home
 refine run ?_
 refine cp (isPublic_c a.n) ?_
 cases h1 : pub a.n with
 | false => refine run ?_; exact er0
 | true =>
  refine run ?_
  refine cp (within_c a.m 0 19) ?_
  refine run ?_
  exact er0
theorem grant_c (a : Ac.Act) (h : Sz a) : AC Tryz.prog 244 [actV a] [] (.bo (grant a)) [] := by
 refine AC.enter [252, 208, 243, 255] [] Tryz.func244 rfl (by decide) (by decide) (Nat.le_of_ble_eq_true rfl) (by kernel_rfl) ?_; refine zev ?_
 unfold grant
 refine run ?_
 refine cp (sealedScope_c a.scope a.group h.group) ?_
 cases h1 : sealedSc a.scope a.group with
 | false => refine run ?_; exact er0
 | true =>
  refine run ?_
  refine cp (within_c a.epoch 0 1073741824) ?_
  cases h2 : wi a.epoch 0 1073741824 with
  | false => refine run ?_; exact er0
  | true =>
   refine run ?_
   refine cp (ids_c a.to h.tos h.to) ?_
   cases h3 : idsR a.to with
   | false => refine run ?_; exact er0
   | true =>
    refine run ?_
    refine cp (wrapped_c a h.wraps) ?_
    refine run ?_
    exact er0
theorem label_c (a : Ac.Act) (h : Sz a) : AC Tryz.prog 245 [actV a] [] (.bo (label a)) [] := by
 refine AC.enter [240, 234, 236] [] Tryz.func245 rfl (by decide) (by decide) (Nat.le_of_ble_eq_true rfl) (by kernel_rfl) ?_; refine zev ?_
 unfold label
 have hn := nilD
 refine run ?_
 refine cp (name_c a.text h.text) ?_
 cases h1 : nameR a.text with
 | false => refine run ?_; exact er0
 | true =>
  refine run ?_
  refine cp (object_c a) ?_
  cases h2 : dig a.object with
  | true =>
   by_cases h3 : a.target = []
   ·rw [decide_eq_true h3]
    refine runf (an @hn @h3) ?_
    exact er0
   ·rw [decide_eq_false h3]
    refine runf (an @hn @h3) ?_
    refine cp (target_c a h) ?_
    cases h4 : idR a.target with
    | false => refine run ?_; exact er0
    | true => refine runf @hn ?_; exact er0
  | false =>
   refine run ?_
   refine cp (target_c a h) ?_
   cases h4 : idR a.target with
   | false => refine run ?_; exact er0
   | true => refine runf @hn ?_; exact er0
theorem setup_c (a : Ac.Act) (h : Sz a) : AC Tryz.prog 246 [actV a] [] (.bo (setup a)) [] := by
 refine AC.enter [243, 255, 208, 254] [] Tryz.func246 rfl (by decide) (by decide) (Nat.le_of_ble_eq_true rfl) (by kernel_rfl) ?_; refine zev ?_
 unfold setup
 by_cases h0 : 0 < a.to.length
 rotate_left
 ·rw [decide_eq_false h0]
  refine run ?_
  exact er0
 rw [decide_eq_true h0]
 refine run ?_
 refine cp (ids_c a.to h.tos h.to) ?_
 cases h1 : idsR a.to with
 | false => refine run ?_; exact er0
 | true =>
  refine run ?_
  refine cp (wrapped_c a h.wraps) ?_
  cases h2 : wrapped a with
  | false => refine run ?_; exact er0
  | true =>
   refine run ?_
   refine cp (within_c a.n 1 a.to.length) ?_
   cases h3 : wi a.n 1 a.to.length with
   | false => refine run ?_; exact er0
   | true =>
    refine run ?_
    refine cp (isPublic_c a.m) ?_
    refine run ?_
    exact er0
theorem rules1_c (a : Ac.Act) (h : Sz a) : AC Tryz.prog 233 [actV a] [] (.bo (dig a.object && audience a)) [] := by
 refine AC.enter [234, 235] [] Tryz.func233 rfl (by decide) (by decide) (Nat.le_of_ble_eq_true rfl) (by kernel_rfl) ?_; refine zev ?_
 refine run ?_
 refine cp (object_c a) ?_
 cases h1 : dig a.object with
 | false => refine run ?_; exact er0
 | true =>
  refine run ?_
  refine cp (audience_c a h) ?_
  refine run ?_
  exact er0
theorem rules2_c (a : Ac.Act) : AC Tryz.prog 237 [actV a] [] (.bo (dig a.object && short a.text)) [] := by
 refine AC.enter [234, 238] [] Tryz.func237 rfl (by decide) (by decide) (Nat.le_of_ble_eq_true rfl) (by kernel_rfl) ?_; refine zev ?_
 refine run ?_
 refine cp (object_c a) ?_
 cases h1 : dig a.object with
 | false => refine run ?_; exact er0
 | true =>
  refine run ?_
  refine cp (isShort_c a.text) ?_
  refine run ?_
  exact er0
theorem rules3_c (a : Ac.Act) (h : Sz a) : AC Tryz.prog 239 [actV a] [] (.bo (nameR a.text && home a)) [] := by
 refine AC.enter [240, 241] [] Tryz.func239 rfl (by decide) (by decide) (Nat.le_of_ble_eq_true rfl) (by kernel_rfl) ?_; refine zev ?_
 refine run ?_
 refine cp (name_c a.text h.text) ?_
 cases h1 : nameR a.text with
 | false => refine run ?_; exact er0
 | true =>
  refine run ?_
  refine cp (home_c a) ?_
  refine run ?_
  exact er0
theorem rules4_c (a : Ac.Act) (h : Sz a) : AC Tryz.prog 242 [actV a] [] (.bo (nameR a.group && idsR a.to)) [] := by
 refine AC.enter [240, 243] [] Tryz.func242 rfl (by decide) (by decide) (Nat.le_of_ble_eq_true rfl) (by kernel_rfl) ?_; refine zev ?_
 refine run ?_
 refine cp (name_c a.group h.group) ?_
 cases h1 : nameR a.group with
 | false => refine run ?_; exact er0
 | true =>
  refine run ?_
  refine cp (ids_c a.to h.tos h.to) ?_
  refine run ?_
  exact er0
theorem rules5_c (a : Ac.Act) : AC Tryz.prog 247 [actV a] [] (.bo (dig a.object && wi a.n 0 1)) [] := by
 refine AC.enter [234, 208] [] Tryz.func247 rfl (by decide) (by decide) (Nat.le_of_ble_eq_true rfl) (by kernel_rfl) ?_; refine zev ?_
 refine run ?_
 refine cp (object_c a) ?_
 cases h1 : dig a.object with
 | false => refine run ?_; exact er0
 | true =>
  refine run ?_
  refine cp (within_c a.n 0 1) ?_
  refine run ?_
  exact er0
theorem rules6_c (a : Ac.Act) (h : Sz a) : AC Tryz.prog 248 [actV a] [] (.bo (idR a.target && short a.text && wi a.n 0 1099511627776)) [] := by
 refine AC.enter [236, 238, 208] [] Tryz.func248 rfl (by decide) (by decide) (Nat.le_of_ble_eq_true rfl) (by kernel_rfl) ?_; refine zev ?_
 refine run ?_
 refine cp (target_c a h) ?_
 cases h1 : idR a.target with
 | false => refine run ?_; exact er0
 | true =>
  refine run ?_
  refine cp (isShort_c a.text) ?_
  cases h2 : short a.text with
  | false => refine run ?_; exact er0
  | true =>
   refine run ?_
   refine cp (within_c a.n 0 1099511627776) ?_
   refine run ?_
   exact er0
theorem placed_c (a : Ac.Act) : AC Tryz.prog 207 [actV a] [] (.bo (placed a)) [] := by
 refine AC.enter [208, 232] [] Tryz.func207 rfl (by decide) (by decide) (Nat.le_of_ble_eq_true rfl) (by kernel_rfl) ?_; refine zev ?_
 unfold placed
 have hn := nilD
 by_cases h0 : a.seq = 0
 ·rw [if_pos h0]
  by_cases h1 : a.kind = 0
  ·rw [decide_eq_true h1]
   refine runf @hn ?_
   exact er0
  ·rw [decide_eq_false h1]
   refine run ?_
   exact er0
 ·rw [if_neg h0]
  refine run ?_
  refine cp (within_c a.seq 1 1073741824) ?_
  cases h1 : wi a.seq 1 1073741824 with
  | false => refine run ?_; exact er0
  | true =>
   by_cases h2 : a.kind = 0
   ·rw [decide_eq_false (p := a.kind ≠ 0) (by simpa using h2)]
    refine run ?_
    exact er0
   ·rw [decide_eq_true (p := a.kind ≠ 0) h2]
    refine run ?_
    refine cp (isDigest_c a.prev) ?_
    refine run ?_
    exact er0
theorem note_c (f s : Int) (z : Bool) : AC Tryz.prog 249 [.it .i64 f, .bo z, .ptr 0 0] [.cells [.it .i64 s]] (.tup []) [.cells [.it .i64 (note z f s)]] := by
 refine AC.enter [] [] Tryz.func249 rfl (by decide) (by decide) (Nat.le_of_ble_eq_true rfl) (by kernel_rfl) ?_; refine zev ?_
 unfold note
 cases z
 ·refine run ?_
  exact en1
 ·refine run ?_
  exact en1
theorem note_at (f s : Int) (z : Bool) (o : SObj) : AC Tryz.prog 249 [.it .i64 f, .bo z, .ptr 1 0] [o, .cells [.it .i64 s]] (.tup []) [o, .cells [.it .i64 (note z f s)]] :=
 AC.at1 (T := [o, .cells [.it .i64 s]]) (note_c f s z) 1 rfl rfl rfl rfl rfl
theorem used_c (a : Ac.Act) : AC Tryz.prog 210 [actV a] [] (.it .i64 (used a)) [] := by
 refine AC.enter [] [] Tryz.func210 rfl (by decide) (by decide) (Nat.le_of_ble_eq_true rfl) (by kernel_rfl) ?_; refine zev ?_
 unfold used
 have hn := nilD
 have hz := zeroD
 have hb := box0_eq a.body
 have hl := lenD a.to
 have hw := lenD a.wraps
 rw [hb]
 refine runf @hn ?_
 refine call_mk (note_at 1 0 (decide (a.object = [])) _) ?_
 generalize note (decide (a.object = [])) 1 0 = s at *
 refine runf @hn ?_
 refine call_mk (note_at 2 s (decide (a.target = [])) _) ?_
 generalize note (decide (a.target = [])) 2 s = s at *
 refine runf @hz ?_
 refine call_mk (note_at 4 s (decide (a.scope = 0)) _) ?_
 generalize note (decide (a.scope = 0)) 4 s = s at *
 refine runf @hn ?_
 refine call_mk (note_at 8 s (decide (a.group = [])) _) ?_
 generalize note (decide (a.group = [])) 8 s = s at *
 refine runf @hl ?_
 refine call_mk (note_at 16 s (decide (a.to = [])) _) ?_
 generalize note (decide (a.to = [])) 16 s = s at *
 refine runf @hn ?_
 refine call_mk (note_at 32 s (decide (a.text = [])) _) ?_
 generalize note (decide (a.text = [])) 32 s = s at *
 refine runf @hn ?_
 refine call_mk (note_at 64 s (decide (a.body.nonce = []) && (decide (a.body.data = []) && decide (a.body.tag = []))) _) ?_
 generalize note (decide (a.body.nonce = []) && (decide (a.body.data = []) && decide (a.body.tag = []))) 64 s = s at *
 refine runf @hz ?_
 refine call_mk (note_at 128 s (decide (a.epoch = 0)) _) ?_
 generalize note (decide (a.epoch = 0)) 128 s = s at *
 refine runf @hw ?_
 refine call_mk (note_at 256 s (decide (a.wraps = [])) _) ?_
 generalize note (decide (a.wraps = [])) 256 s = s at *
 refine runf @hz ?_
 refine call_mk (note_at 512 s (decide (a.n = 0)) _) ?_
 generalize note (decide (a.n = 0)) 512 s = s at *
 refine runf @hz ?_
 refine call_mk (note_at 1024 s (decide (a.m = 0)) _) ?_
 generalize note (decide (a.m = 0)) 1024 s = s at *
 refine run ?_
 exact er0
def ruleF : Ru → FuncId
 | .begin => 239
 | .post => 235
 | .reply => 233
 | .about => 234
 | .tie => 236
 | .reason => 237
 | .circle => 242
 | .grant => 244
 | .label => 245
 | .move => 241
 | .setup => 246
 | .judge => 247
 | .list => 248
theorem ruleF_c (a : Ac.Act) (h : Sz a) (r : Ru) : AC Tryz.prog (ruleF r) [actV a] [] (.bo (r.ok a)) [] := by
 cases r
 ·exact rules3_c a h
 ·exact audience_c a h
 ·exact rules1_c a h
 ·exact object_c a
 ·exact target_c a h
 ·exact rules2_c a
 ·exact rules4_c a h
 ·exact grant_c a h
 ·exact label_c a h
 ·exact home_c a
 ·exact setup_c a h
 ·exact rules5_c a
 ·exact rules6_c a h
def ruleV (r : Ru) : AV := .agg [.it .i64 r.mask, .fn (.func (ruleF r)) [] []]
def ruleE : List (AV × AV) := ruleL.map fun p => (.it .i64 p.1, ruleV p.2)
theorem kfind_rule (k : Int) : ∀ (l : List (Int × Ru)) (i : Nat), (l.lookup k = none ∧ kfind (.it .i64 k) (l.map fun p => (.it .i64 p.1, ruleV p.2)) i = some none) ∨ (∃ r j, l.lookup k = some r ∧ kfind (.it .i64 k) (l.map fun p => (.it .i64 p.1, ruleV p.2)) i = some (some (j, ruleV r)))
 | [], i => .inl ⟨rfl, rfl⟩
 | (k', r) :: l, i => by
  have hk : keq (.it .i64 k) (.it .i64 k') = some (k == k') := rfl
  rw [List.map_cons, List.lookup_cons]
  unfold kfind
  rw [hk]
  cases e : k == k' with
  | true => exact .inr ⟨r, i, rfl, rfl⟩
  | false => exact kfind_rule k l (i + 1)
theorem ruleE_ok : (SObj.map ruleE).ok 0 = true := by decide +kernel
theorem rules_c : AC Tryz.prog 209 [] [] (.fm ruleE) [] := by
 refine AC.enter [] [] Tryz.func209 rfl (by decide) (by decide) (Nat.le_of_ble_eq_true rfl) (by kernel_rfl) ?_; refine zev ?_
 refine run ?_
 exact ends_retW _ _ (Weak.freeze 0 0 4 (es := ruleE) (by rfl) (by rfl) ruleE_ok) [] (by rfl) (subOk_nil _) (by rfl) (by rfl) (by rfl)
theorem right_c (a : Ac.Act) (h : Sz a) : AC Tryz.prog 171 [actV a] [] (.bo (right a)) [] := by
 refine AC.enter [209, 206, 207, 208, 210, 1000050] [] Tryz.func171 rfl (by decide) (by decide) (Nat.le_of_ble_eq_true rfl) (by kernel_rfl) ?_; refine zev ?_
 unfold right
 refine run ?_
 refine cp (idright_c a.author h.author) ?_
 cases h1 : idR a.author with
 | false => refine run ?_; exact er0
 | true =>
  refine run ?_
  refine cp (placed_c a) ?_
  cases h2 : placed a with
  | false => refine run ?_; exact er0
  | true =>
   refine run ?_
   refine cp (within_c a.time 0 1099511627776) ?_
   cases h3 : wi a.time 0 1099511627776 with
   | false => refine run ?_; exact er0
   | true =>
    unfold sigR
    refine run ?_
    refine cp (within_c a.sig.e 0 2305843009213693949) ?_
    cases h4 : wi a.sig.e 0 2305843009213693949 with
    | false => refine run ?_; exact er0
    | true =>
     refine run ?_
     refine cp (within_c a.sig.s 0 2305843009213693949) ?_
     cases h5 : wi a.sig.s 0 2305843009213693949 with
     | false => refine run ?_; exact er0
     | true =>
      refine run ?_
      refine cp rules_c ?_
      rcases kfind_rule a.kind ruleL 0 with ⟨hr, hk⟩ | ⟨r, j, hr, hk⟩
      ·change kfind _ ruleE 0 = _ at hk
       change rule a.kind = _ at hr
       rw [hr]
       refine runf @hk ?_
       exact er0
      ·change kfind _ ruleE 0 = _ at hk
       change rule a.kind = _ at hr
       rw [hr]
       have hv : ruleV r = .agg [.it .i64 r.mask, .fn (.func (ruleF r)) [] []] := rfl
       rw [hv] at hk
       refine runf @hk ?_
       refine cp (used_c a) ?_
       by_cases hu : Go.bits .andNot .i64 (used a) r.mask = 0
       ·rw [decide_eq_true hu]
        have hrc := ruleF_c a h r
        refine runf @hu ?_
        refine cp hrc ?_
        refine run ?_
        exact er0
       ·have hb : (Go.bits .andNot .i64 (used a) r.mask == 0) = false := by simpa using hu
        rw [decide_eq_false hu]
        refine runf @hb ?_
        exact er0
end Go.Proofs.YtleljbiejeofgaaGreatDoor.Pe
namespace Go.Proofs.YtleljbiejeofgaaGreatDoor.Pe
open Go Go.RowKit Co Sg Ac
set_option maxRecDepth 100000
set_option maxHeartbeats 4000000
theorem AC.empties [Tab] {P : Program} {f : FuncId} {m : Mode} {rest : List AV} {S S' : Store} {v : AV} (h : ∀ (A : Option Addr) (c : Nat), AC P f (.ot (.slice A 0 c) :: rest) S v S') : AC P f (.sl m [] :: rest) S v S' := by
 refine ⟨(h none 0).can, fun w g cargs hw hargs => ?_⟩
 obtain ⟨h1, h2⟩ := hargs
 have h0 : 0 < cargs.size := by rw [h1]; simp
 have hr := h2 0 _ cargs[0] rfl (Array.getElem?_eq_getElem h0)
 generalize hcv : cargs[0] = cv at hr
 cases hr with
 | sl _ _ _ A c sz cu hc hcm hsz hA h1' hr' hm =>
  refine (h A c).run w g cargs hw ⟨by simpa using h1, fun j u v hu hv => ?_⟩
  cases j with
  | zero =>
   simp only [List.getElem?_cons_zero, Option.some.injEq] at hu
   subst hu
   rw [Array.getElem?_eq_getElem h0, hcv] at hv
   cases hv
   exact .ot _ _ rfl
  | succ j => exact h2 (j + 1) u v (by simpa using hu) hv
theorem eqS_c (l r : List By) (hl : l.length ≤ 140737488355328) (hr : r.length ≤ 140737488355328) : AC Tryz.prog 200 [.sl .ro (l.map AV.st), .sl .ro (r.map AV.st)] [] (.bo (decide (l = r))) [] := by
 refine AC.enter [] [] Tryz.func200 rfl (by decide) (by decide) (Nat.le_of_ble_eq_true rfl) (by kernel_rfl) ?_; refine zev ?_
 by_cases hlen : l.length = r.length
 rotate_left
 ·rw [decide_eq_false (fun e => hlen (by rw [e]))]
  refine run ?_
  exact er0
 have hs1 : allSz 1 (l.map AV.st) = true := allSz_map 1 AV.st (fun _ => rfl) _
 have hs2 : allSz 1 (r.map AV.st) = true := allSz_map 1 AV.st (fun _ => rfl) _
 refine run ?_
 refine loop_mk (fun m e S => S = [] ∧ e 0 = .sl .ro (l.map AV.st) ∧ e 1 = .sl .ro (r.map AV.st) ∧ e 12 = .it .i64 (l.length : Int) ∧ ∃ k : Nat, e 13 = .it .i64 (k : Int) ∧ k ≤ l.length ∧ l.take k = r.take k ∧ m = l.length - k) l.length ⟨rfl, zsl, zsl, zsl, 0, zsl, by omega, rfl, rfl⟩ ?_
 rintro m e S ⟨rfl, s0, s1, s12, k, s13, hk, htk, rfl⟩
 by_cases hlt : k < l.length
 rotate_left
 ·obtain rfl : k = l.length := by omega
  rw [List.take_length, List.take_of_length_le (by omega)] at htk
  rw [decide_eq_true htk]
  refine runf (an @s0 (an @s1 (an @s12 @s13))) ?_
  exact er0
 have g1 : l[k]? = some l[k] := List.getElem?_eq_getElem hlt
 have g2 : r[k]? = some (r[k]'(by omega)) := List.getElem?_eq_getElem (by omega)
 have hbad : l[k] ≠ r[k]'(by omega) → l ≠ r := fun h e => h (by subst e; rfl)
 have hgood : l[k] = r[k]'(by omega) → l.take (k + 1) = r.take (k + 1) := fun h => by
  rw [List.take_succ_eq_append_getElem hlt, List.take_succ_eq_append_getElem (by omega : k < r.length), htk, h]
 generalize l[k] = x at *
 generalize r[k]'_ = y at *
 by_cases hxy : x = y
 ·subst hxy
  have hg := hgood rfl
  clear hgood hbad htk
  refine runf (an @s0 (an @s1 (an @s12 (an @s13 (an @g1 (an @g2 (an @hs1 @hs2))))))) ?_
  exact round_mk (l.length - (k + 1)) (by omega) ⟨rfl, zsl, zsl, zsl, k + 1, zsl, by omega, hg, rfl⟩
 ·rw [decide_eq_false (hbad hxy)]
  clear hgood hbad htk
  have e1 : (x == y) = false := by simpa using hxy
  refine runf (an @s0 (an @s1 (an @s12 (an @s13 (an @g1 (an @g2 (an @hs1 (an @hs2 @e1)))))))) ?_
  exact er0
theorem eqW_c (l r : List Wrap) (hl : l.length ≤ 140737488355328) (hr : r.length ≤ 140737488355328) : AC Tryz.prog 201 [.sl .ro (l.map wrapV), .sl .ro (r.map wrapV)] [] (.bo (decide (l = r))) [] := by
 refine AC.enter [] [] Tryz.func201 rfl (by decide) (by decide) (Nat.le_of_ble_eq_true rfl) (by kernel_rfl) ?_; refine zev ?_
 by_cases hlen : l.length = r.length
 rotate_left
 ·rw [decide_eq_false (fun e => hlen (by rw [e]))]
  refine run ?_
  exact er0
 have hs1 : allSz 5 (l.map wrapV) = true := allSz_map 5 wrapV (fun _ => rfl) _
 have hs2 : allSz 5 (r.map wrapV) = true := allSz_map 5 wrapV (fun _ => rfl) _
 refine run ?_
 refine loop_mk (fun m e S => S = [] ∧ e 0 = .sl .ro (l.map wrapV) ∧ e 1 = .sl .ro (r.map wrapV) ∧ e 12 = .it .i64 (l.length : Int) ∧ ∃ k : Nat, e 13 = .it .i64 (k : Int) ∧ k ≤ l.length ∧ l.take k = r.take k ∧ m = l.length - k) l.length ⟨rfl, zsl, zsl, zsl, 0, zsl, by omega, rfl, rfl⟩ ?_
 rintro m e S ⟨rfl, s0, s1, s12, k, s13, hk, htk, rfl⟩
 by_cases hlt : k < l.length
 rotate_left
 ·obtain rfl : k = l.length := by omega
  rw [List.take_length, List.take_of_length_le (by omega)] at htk
  rw [decide_eq_true htk]
  refine runf (an @s0 (an @s1 (an @s12 @s13))) ?_
  exact er0
 have g1 : l[k]? = some l[k] := List.getElem?_eq_getElem hlt
 have g2 : r[k]? = some (r[k]'(by omega)) := List.getElem?_eq_getElem (by omega)
 have hbad : l[k] ≠ r[k]'(by omega) → l ≠ r := fun h e => h (by subst e; rfl)
 have hgood : l[k] = r[k]'(by omega) → l.take (k + 1) = r.take (k + 1) := fun h => by
  rw [List.take_succ_eq_append_getElem hlt, List.take_succ_eq_append_getElem (by omega : k < r.length), htk, h]
 generalize l[k] = x at *
 generalize r[k]'_ = y at *
 by_cases hxy : x = y
 ·subst hxy
  have hg := hgood rfl
  clear hgood hbad htk
  refine runf (an @s0 (an @s1 (an @s12 (an @s13 (an @g1 (an @g2 (an @hs1 @hs2))))))) ?_
  exact round_mk (l.length - (k + 1)) (by omega) ⟨rfl, zsl, zsl, zsl, k + 1, zsl, by omega, hg, rfl⟩
 ·rw [decide_eq_false (hbad hxy)]
  clear hgood hbad htk
  have e1 : ((x.to == y.to) && ((x.eph == y.eph) && (((x.box.nonce == y.box.nonce) && ((x.box.data == y.box.data) && (x.box.tag == y.box.tag)))))) = false := by
   obtain ⟨x1, x2, x3, x4, x5⟩ := x
   obtain ⟨y1, y2, y3, y4, y5⟩ := y
   rw [Bool.eq_false_iff]
   intro h
   simp only [Bool.and_eq_true, beq_iff_eq] at h
   obtain ⟨rfl, rfl, rfl, rfl, rfl⟩ := h
   exact hxy rfl
  refine runf (an @s0 (an @s1 (an @s12 (an @s13 (an @g1 (an @g2 (an @hs1 (an @hs2 @e1)))))))) ?_
  exact er0
theorem same_c (a b : Ac.Act) (ha : a.to.length ≤ 140737488355328 ∧ a.wraps.length ≤ 140737488355328) (hb : b.to.length ≤ 140737488355328 ∧ b.wraps.length ≤ 140737488355328) : AC Tryz.prog 156 [actV a, actV b] [] (.bo (decide (a = b))) [] := by
 refine AC.enter [200, 201] [] Tryz.func156 rfl (by decide) (by decide) (Nat.le_of_ble_eq_true rfl) (by kernel_rfl) ?_; refine zev ?_
 obtain ⟨q, hq⟩ : ∃ q, decide (a = b) = q := ⟨_, rfl⟩
 rw [hq]
 obtain ⟨a_author, a_seq, a_prev, a_kind, a_time, a_object, a_target, a_scope, a_group, a_to, a_text, ⟨a_bn, a_bd, a_bt⟩, a_epoch, a_wraps, a_n, a_m, ⟨a_se, a_ss⟩⟩ := a
 obtain ⟨b_author, b_seq, b_prev, b_kind, b_time, b_object, b_target, b_scope, b_group, b_to, b_text, ⟨b_bn, b_bd, b_bt⟩, b_epoch, b_wraps, b_n, b_m, ⟨b_se, b_ss⟩⟩ := b
 by_cases h_author : a_author = b_author
 rotate_left
 ·obtain rfl : q = false := by rw [← hq]; exact decide_eq_false (fun e => h_author (by cases e; rfl))
  have e_author : (a_author == b_author) = false := by simpa using h_author
  refine runf @e_author ?_
  exact er0
 subst h_author
 by_cases h_seq : a_seq = b_seq
 rotate_left
 ·obtain rfl : q = false := by rw [← hq]; exact decide_eq_false (fun e => h_seq (by cases e; rfl))
  refine run ?_
  exact er0
 subst h_seq
 by_cases h_prev : a_prev = b_prev
 rotate_left
 ·obtain rfl : q = false := by rw [← hq]; exact decide_eq_false (fun e => h_prev (by cases e; rfl))
  have e_prev : (a_prev == b_prev) = false := by simpa using h_prev
  refine runf @e_prev ?_
  exact er0
 subst h_prev
 by_cases h_kind : a_kind = b_kind
 rotate_left
 ·obtain rfl : q = false := by rw [← hq]; exact decide_eq_false (fun e => h_kind (by cases e; rfl))
  refine run ?_
  exact er0
 subst h_kind
 by_cases h_time : a_time = b_time
 rotate_left
 ·obtain rfl : q = false := by rw [← hq]; exact decide_eq_false (fun e => h_time (by cases e; rfl))
  refine run ?_
  exact er0
 subst h_time
 by_cases h_object : a_object = b_object
 rotate_left
 ·obtain rfl : q = false := by rw [← hq]; exact decide_eq_false (fun e => h_object (by cases e; rfl))
  have e_object : (a_object == b_object) = false := by simpa using h_object
  refine runf @e_object ?_
  exact er0
 subst h_object
 by_cases h_target : a_target = b_target
 rotate_left
 ·obtain rfl : q = false := by rw [← hq]; exact decide_eq_false (fun e => h_target (by cases e; rfl))
  have e_target : (a_target == b_target) = false := by simpa using h_target
  refine runf @e_target ?_
  exact er0
 subst h_target
 by_cases h_scope : a_scope = b_scope
 rotate_left
 ·obtain rfl : q = false := by rw [← hq]; exact decide_eq_false (fun e => h_scope (by cases e; rfl))
  refine run ?_
  exact er0
 subst h_scope
 by_cases h_group : a_group = b_group
 rotate_left
 ·obtain rfl : q = false := by rw [← hq]; exact decide_eq_false (fun e => h_group (by cases e; rfl))
  have e_group : (a_group == b_group) = false := by simpa using h_group
  refine runf @e_group ?_
  exact er0
 subst h_group
 refine run ?_
 refine cp (eqS_c a_to b_to ha.1 hb.1) ?_
 by_cases h_to : a_to = b_to
 rotate_left
 ·obtain rfl : q = false := by rw [← hq]; exact decide_eq_false (fun e => h_to (by cases e; rfl))
  rw [decide_eq_false h_to]
  refine run ?_
  exact er0
 subst h_to
 rw [decide_eq_true (p := a_to = a_to) rfl]
 by_cases h_text : a_text = b_text
 rotate_left
 ·obtain rfl : q = false := by rw [← hq]; exact decide_eq_false (fun e => h_text (by cases e; rfl))
  have e_text : (a_text == b_text) = false := by simpa using h_text
  refine runf @e_text ?_
  exact er0
 subst h_text
 by_cases h_bn : a_bn = b_bn
 rotate_left
 ·obtain rfl : q = false := by rw [← hq]; exact decide_eq_false (fun e => h_bn (by cases e; rfl))
  have e_bn : (a_bn == b_bn) = false := by simpa using h_bn
  refine runf @e_bn ?_
  exact er0
 subst h_bn
 by_cases h_bd : a_bd = b_bd
 rotate_left
 ·obtain rfl : q = false := by rw [← hq]; exact decide_eq_false (fun e => h_bd (by cases e; rfl))
  have e_bd : (a_bd == b_bd) = false := by simpa using h_bd
  refine runf @e_bd ?_
  exact er0
 subst h_bd
 by_cases h_bt : a_bt = b_bt
 rotate_left
 ·obtain rfl : q = false := by rw [← hq]; exact decide_eq_false (fun e => h_bt (by cases e; rfl))
  have e_bt : (a_bt == b_bt) = false := by simpa using h_bt
  refine runf @e_bt ?_
  exact er0
 subst h_bt
 by_cases h_epoch : a_epoch = b_epoch
 rotate_left
 ·obtain rfl : q = false := by rw [← hq]; exact decide_eq_false (fun e => h_epoch (by cases e; rfl))
  refine run ?_
  exact er0
 subst h_epoch
 refine run ?_
 refine cp (eqW_c a_wraps b_wraps ha.2 hb.2) ?_
 by_cases h_wraps : a_wraps = b_wraps
 rotate_left
 ·obtain rfl : q = false := by rw [← hq]; exact decide_eq_false (fun e => h_wraps (by cases e; rfl))
  rw [decide_eq_false h_wraps]
  refine run ?_
  exact er0
 subst h_wraps
 rw [decide_eq_true (p := a_wraps = a_wraps) rfl]
 by_cases h_n : a_n = b_n
 rotate_left
 ·obtain rfl : q = false := by rw [← hq]; exact decide_eq_false (fun e => h_n (by cases e; rfl))
  refine run ?_
  exact er0
 subst h_n
 by_cases h_m : a_m = b_m
 rotate_left
 ·obtain rfl : q = false := by rw [← hq]; exact decide_eq_false (fun e => h_m (by cases e; rfl))
  refine run ?_
  exact er0
 subst h_m
 by_cases h_se : a_se = b_se
 rotate_left
 ·obtain rfl : q = false := by rw [← hq]; exact decide_eq_false (fun e => h_se (by cases e; rfl))
  refine run ?_
  exact er0
 subst h_se
 by_cases h_ss : a_ss = b_ss
 rotate_left
 ·obtain rfl : q = false := by rw [← hq]; exact decide_eq_false (fun e => h_ss (by cases e; rfl))
  refine run ?_
  exact er0
 subst h_ss
 obtain rfl : q = true := by rw [← hq]; exact decide_eq_true rfl
 refine run ?_
 exact er0
theorem cloneS_c (l : List By) (hl : l.length ≤ 1000000) : AC Tryz.prog 109 [.sl .ro (l.map AV.st)] [] (.sl .ro (l.map AV.st)) [] := by
 cases l with
 | nil =>
  refine AC.empties fun A c => ?_
  refine AC.enter [] [] Tryz.func109 rfl (by decide) (by decide) (Nat.le_of_ble_eq_true rfl) (by kernel_rfl) ?_; refine zev ?_
  cases A with
  | none =>
   refine run ?_
   exact er0w
  | some A =>
   refine run ?_
   exact er0w
 | cons x l =>
  have hs1 : allSz 1 ((x :: l).map AV.st) = true := allSz_map 1 AV.st (fun _ => rfl) _
  have hl' : l.length ≤ 1000000 := by simp only [List.length_cons] at hl; omega
  simp only [List.map_cons] at hs1 ⊢
  refine AC.enter [] [] Tryz.func109 rfl (by decide) (by decide) (Nat.le_of_ble_eq_true rfl) (by kernel_rfl) ?_; refine zev ?_
  refine runf @hs1 ?_
  exact er0w
theorem cloneW_c (l : List Wrap) (hl : l.length ≤ 1000000) : AC Tryz.prog 136 [.sl .ro (l.map wrapV)] [] (.sl .ro (l.map wrapV)) [] := by
 cases l with
 | nil =>
  refine AC.empties fun A c => ?_
  refine AC.enter [] [] Tryz.func136 rfl (by decide) (by decide) (Nat.le_of_ble_eq_true rfl) (by kernel_rfl) ?_; refine zev ?_
  cases A with
  | none =>
   refine run ?_
   exact er0w
  | some A =>
   refine run ?_
   exact er0w
 | cons x l =>
  have hs1 : allSz 5 ((x :: l).map wrapV) = true := allSz_map 5 wrapV (fun _ => rfl) _
  have hl' : l.length ≤ 1000000 := by simp only [List.length_cons] at hl; omega
  simp only [List.map_cons] at hs1 ⊢
  refine AC.enter [] [] Tryz.func136 rfl (by decide) (by decide) (Nat.le_of_ble_eq_true rfl) (by kernel_rfl) ?_; refine zev ?_
  refine runf @hs1 ?_
  exact er0w
theorem boxBytes_c (b : Box) (h : b.nonce.length ≤ 1000000 ∧ b.data.length ≤ 1000000 ∧ b.tag.length ≤ 1000000) : AC Tryz.prog 250 [boxV b] [] (.st (boxB b)) [] := by
 refine AC.enter [74] [] Tryz.func250 rfl (by decide) (by decide) (Nat.le_of_ble_eq_true rfl) (by kernel_rfl) ?_; refine zev ?_
 have l1 := text_len h.1
 have l2 := text_len h.2.1
 have l3 := text_len h.2.2
 unfold boxB
 refine run ?_
 refine cp (text_c b.nonce (by omega)) ?_
 refine run ?_
 refine cp (text_c b.data (by omega)) ?_
 refine run ?_
 refine cp (text_c b.tag (by omega)) ?_
 refine run ?_
 exact er0
theorem boxB_len (b : Box) (h : b.nonce.length ≤ 1000000 ∧ b.data.length ≤ 1000000 ∧ b.tag.length ≤ 1000000) : (boxB b).length ≤ 3000027 := by
 have l1 := text_len h.1
 have l2 := text_len h.2.1
 have l3 := text_len h.2.2
 unfold boxB
 simp only [List.length_append]
 omega
theorem wrap_sm {w : Wrap} (h : wrapR w = true) : (1 ≤ w.to ∧ w.to ≤ 2305843009213693950) ∧ (1 ≤ w.eph ∧ w.eph ≤ 2305843009213693950) ∧ w.box.nonce.length ≤ 1000000 ∧ w.box.data.length ≤ 1000000 ∧ w.box.tag.length ≤ 1000000 := by
 simp only [wrapR, pub, Bool.and_eq_true, wi_iff] at h
 have := sealedB_len h.2
 omega
theorem wrapB_len {w : Wrap} (h : wrapR w = true) : (wrapB w).length ≤ 3000045 := by
 have h' := wrap_sm h
 have := boxB_len w.box h'.2.2
 have h1 := numI_le w.to (by omega)
 have h2 := numI_le w.eph (by omega)
 unfold wrapB
 simp only [List.length_append]
 omega
theorem wraps_len {l : List Wrap} (hw : ∀ w ∈ l, wrapR w = true) (hl : l.length ≤ 64) (k : Nat) : ((l.take k).map wrapB).flatten.length ≤ 192002880 := by
 have hx : ∀ m : List Wrap, (∀ w ∈ m, wrapR w = true) → (m.map wrapB).flatten.length ≤ m.length * 3000045 := fun m => by
  induction m with
  | nil => intro _; simp
  | cons w m ih =>
   intro h
   have h1 := wrapB_len (h w (by simp))
   have h2 := ih fun x hx => h x (by simp [hx])
   rw [List.map_cons, List.flatten_cons, List.length_append, List.length_cons, Nat.succ_mul]
   omega
 have h1 := hx (l.take k) fun w h => hw w (List.mem_of_mem_take h)
 have h2 : (l.take k).length * 3000045 ≤ 64 * 3000045 := Nat.mul_le_mul_right _ (by rw [List.length_take]; omega)
 omega
def preC (a : Ac.Act) : By :=
 text wAct ++ text a.author ++ numI a.seq ++ text a.prev ++ (numI a.kind ++ numI a.time ++ text a.object ++ text a.target) ++ (numI a.scope ++ text a.group ++ list a.to ++ text a.text) ++ (boxB a.body ++ numI a.epoch ++ num a.wraps.length)
theorem coreB_pre (a : Ac.Act) : coreB a = preC a ++ (a.wraps.map wrapB).flatten ++ numI a.n ++ numI a.m := by
 unfold coreB preC
 simp only [List.append_assoc]
theorem core_c (a : Ac.Act) (h : Sz a) : AC Tryz.prog 215 [actV a] [] (.st (core a)) [] := by
 refine AC.enter [171, 74, 75, 202, 250] [] Tryz.func215 rfl (by decide) (by decide) (Nat.le_of_ble_eq_true rfl) (by kernel_rfl) ?_; refine zev ?_
 unfold core
 refine run ?_
 refine cp (right_c a h) ?_
 cases hr : right a with
 | false => rw [if_neg (by simp)]; refine run ?_; exact er0
 | true =>
  rw [if_pos rfl]
  have sm := right_sm hr
  have q1 := text_len (s := wAct) (by simp)
  have q2 := text_len (s := a.author) (by have := sm.author; omega)
  have q3 := numI_le a.seq (by have := sm.seq; omega)
  have q4 := text_len (s := a.prev) (by have := sm.prev; omega)
  have q5 := numI_le a.kind (by have := sm.kind; omega)
  have q6 := numI_le a.time (by have := sm.time; omega)
  have q7 := text_len (s := a.object) (by have := sm.object; omega)
  have q8 := text_len (s := a.target) (by have := sm.target; omega)
  have q9 := numI_le a.scope (by have := sm.scope; omega)
  have q10 := text_len (s := a.group) (by have := sm.group; omega)
  have q11 := list_len (l := a.to) (by have := sm.to; omega) (fun x hx => by have := sm.to.2 x hx; omega)
  have q12 := text_len (s := a.text) (by have := sm.text; omega)
  have q13 := boxB_len a.body (by have := sm.body; omega)
  have q14 := numI_le a.epoch (by have := sm.epoch; omega)
  have q15 := num_len9 (n := a.wraps.length) (by have := sm.wraps; omega)
  have q16 := numI_le a.n (by have := sm.n; omega)
  have q17 := numI_le a.m (by have := sm.m; omega)
  have k1 := text_c wAct (by simp)
  have k2 := text_c a.author (by have := sm.author; omega)
  have k3 := num_c a.seq (by have := sm.seq; omega) (by have := sm.seq; omega)
  have k4 := text_c a.prev (by have := sm.prev; omega)
  have k5 := num_c a.kind (by have := sm.kind; omega) (by have := sm.kind; omega)
  have k6 := num_c a.time (by have := sm.time; omega) (by have := sm.time; omega)
  have k7 := text_c a.object (by have := sm.object; omega)
  have k8 := text_c a.target (by have := sm.target; omega)
  have k9 := num_c a.scope (by have := sm.scope; omega) (by have := sm.scope; omega)
  have k10 := text_c a.group (by have := sm.group; omega)
  have k11 := list_c a.to (by have := sm.to; omega) (fun x hx => by have := sm.to.2 x hx; omega)
  have k12 := text_c a.text (by have := sm.text; omega)
  have k13 := boxBytes_c a.body (by have := sm.body; omega)
  have k14 := num_c a.epoch (by have := sm.epoch; omega) (by have := sm.epoch; omega)
  have k15 := num_c (a.wraps.length : Int) (by have := sm.wraps; omega) (by omega)
  rw [numI_nat] at k15
  have k16 := num_c a.n (by have := sm.n; omega) (by have := sm.n; omega)
  have k17 := num_c a.m (by have := sm.m; omega) (by have := sm.m; omega)
  have hwr := sm.wraps
  have hlp : (preC a).length ≤ 2000000000000 := by
   unfold preC
   simp only [List.length_append]
   omega
  rw [coreB_pre]
  have hsz : allSz 5 (a.wraps.map wrapV) = true := allSz_map 5 wrapV (fun _ => rfl) _
  clear hr sm h
  refine run ?_
  refine cp k1 ?_
  refine run ?_
  refine cp k2 ?_
  refine run ?_
  refine cp k3 ?_
  refine run ?_
  refine cp k4 ?_
  refine run ?_
  refine cp k5 ?_
  refine run ?_
  refine cp k6 ?_
  refine run ?_
  refine cp k7 ?_
  refine run ?_
  refine cp k8 ?_
  refine run ?_
  refine cp k9 ?_
  refine run ?_
  refine cp k10 ?_
  refine run ?_
  refine cp k11 ?_
  refine run ?_
  refine cp k12 ?_
  refine run ?_
  refine cp k13 ?_
  refine run ?_
  refine cp k14 ?_
  refine run ?_
  refine cp k15 ?_
  clear k1 k2 k3 k4 k5 k6 k7 k8 k9 k10 k11 k12 k13 k14 k15
  refine run ?_
  refine loop_mk (fun m e S => e 1 = .ptr 0 0 ∧ e 71 = .sl .ro (a.wraps.map wrapV) ∧ e 72 = .it .i64 (a.wraps.length : Int) ∧ ∃ (k : Nat) (T : Store), e 73 = .it .i64 (k : Int) ∧ e 3 = .st (preC a ++ ((a.wraps.take k).map wrapB).flatten) ∧ S = .cells (actL a) :: T ∧ k ≤ a.wraps.length ∧ m = a.wraps.length - k) a.wraps.length
   ⟨zsl, zsl, zsl, 0, [], zsl, by rw [List.take_zero, List.map_nil, List.flatten_nil, List.append_nil]; exact zsl, rfl, by omega, rfl⟩ ?_
  clear q1 q2 q3 q4 q5 q6 q7 q8 q9 q10 q11 q12 q13 q14 q15
  rintro m e S ⟨s1, s71, s72, k, T, s73, s3, rfl, hk, rfl⟩
  have hlen := wraps_len hwr.2 hwr.1 k
  by_cases hlt : k < a.wraps.length
  rotate_left
  ·obtain rfl : k = a.wraps.length := by omega
   rw [List.take_length] at s3 hlen
   generalize (a.wraps.map wrapB).flatten = z at *
   generalize preC a = p at *
   refine runf (an @s1 (an @s71 (an @s72 (an @s73 @s3)))) ?_
   refine cp k16 ?_
   refine runf (an @s1 (an @s71 (an @s72 (an @s73 @s3)))) ?_
   refine cp k17 ?_
   refine runf (an @s1 (an @s71 (an @s72 (an @s73 @s3)))) ?_
   exact er0
  have hg : a.wraps[k]? = some a.wraps[k] := List.getElem?_eq_getElem hlt
  have hx := hwr.2 a.wraps[k] (List.getElem_mem hlt)
  have hstep : ((a.wraps.take (k + 1)).map wrapB).flatten = ((a.wraps.take k).map wrapB).flatten ++ wrapB a.wraps[k] := by
   rw [List.take_succ_eq_append_getElem hlt, List.map_append, List.flatten_append]
   congr 1
   exact List.append_nil _
  have hT1 : ∀ y : SObj, (T ++ [y])[T.length]? = some y := fun y => by simp
  have hT2 : ∀ y z : SObj, (T ++ [y]).set T.length z = T ++ [z] := fun y z => by simp
  generalize a.wraps[k] = x at *
  have hx' := wrap_sm hx
  have hbl := boxB_len x.box hx'.2.2
  have hn1 := numI_le x.to (by omega)
  have hn2 := numI_le x.eph (by omega)
  generalize ((a.wraps.take k).map wrapB).flatten = z at *
  generalize preC a = p at *
  have hwl := hwr.1
  clear k16 k17 q16 q17 hwr
  refine runf (an @s1 (an @s71 (an @s72 (an @s73 (an @s3 (an @hg (an @hsz (an @hT1 @hT2)))))))) ?_
  refine cp (num_c x.to (by omega) (by omega)) ?_
  refine runf (an @s1 (an @s71 (an @s72 (an @s73 (an @s3 (an @hT1 @hT2)))))) ?_
  refine cp (num_c x.eph (by omega) (by omega)) ?_
  refine runf (an @s1 (an @s71 (an @s72 (an @s73 (an @s3 (an @hT1 @hT2)))))) ?_
  refine cp (boxBytes_c x.box hx'.2.2) ?_
  refine runf (an @s1 (an @s71 (an @s72 (an @s73 (an @s3 (an @hT1 @hT2)))))) ?_
  exact round_mk (a.wraps.length - (k + 1)) (by omega) ⟨zsl, zsl, zsl, k + 1, _, zsl, by rw [hstep]; unfold wrapB; simp only [List.append_assoc]; exact zsl, rfl, by omega, rfl⟩
theorem core_len5 {a : Ac.Act} : (core a).length ≤ 100000 := by
 unfold core
 split
 ·rename_i hr
  have sm := right_sm hr
  have q1 : (text wAct).length = 4 := by rfl
  have tl : ∀ (s : By) (n : Nat), s.length ≤ n → n ≤ 1000 → (text s).length ≤ n + 9 := fun s n h h' => by
   have := num_len9 (n := s.length) (by omega)
   unfold text
   rw [List.length_append]
   omega
  have q2 := tl a.author 16 (by have := sm.author; omega) (by omega)
  have q3 := numI_le a.seq (by have := sm.seq; omega)
  have q4 := tl a.prev 32 (by have := sm.prev; omega) (by omega)
  have q5 := numI_le a.kind (by have := sm.kind; omega)
  have q6 := numI_le a.time (by have := sm.time; omega)
  have q7 := tl a.object 32 (by have := sm.object; omega) (by omega)
  have q8 := tl a.target 16 (by have := sm.target; omega) (by omega)
  have q9 := numI_le a.scope (by have := sm.scope; omega)
  have q10 := tl a.group 24 (by have := sm.group; omega) (by omega)
  have q12 := tl a.text 500 (by have := sm.text; omega) (by omega)
  have bl : ∀ b : Box, b.nonce.length ≤ 32 ∧ b.data.length ≤ 500 ∧ b.tag.length ≤ 16 → (boxB b).length ≤ 575 := fun b h => by
   have l1 := tl b.nonce 32 h.1 (by omega)
   have l2 := tl b.data 500 h.2.1 (by omega)
   have l3 := tl b.tag 16 h.2.2 (by omega)
   unfold boxB
   simp only [List.length_append]
   omega
  have q13 := bl a.body sm.body
  have q14 := numI_le a.epoch (by have := sm.epoch; omega)
  have q15 := num_len9 (n := a.wraps.length) (by have := sm.wraps; omega)
  have q16 := numI_le a.n (by have := sm.n; omega)
  have q17 := numI_le a.m (by have := sm.m; omega)
  have q11 : (list a.to).length ≤ 2000 := by
   have h1 := num_len9 (n := a.to.length) (by have := sm.to; omega)
   have h2 : ∀ l : List By, (∀ s ∈ l, s.length = 16) → (l.map text).flatten.length ≤ l.length * 25 := fun l => by
    induction l with
    | nil => intro _; simp
    | cons s l ih =>
     intro h
     have e1 := tl s 16 (by have := h s (by simp); omega) (by omega)
     have e2 := ih fun x hx => h x (by simp [hx])
     rw [List.map_cons, List.flatten_cons, List.length_append, List.length_cons, Nat.succ_mul]
     omega
   have h3 := h2 a.to sm.to.2
   have h4 : a.to.length * 25 ≤ 64 * 25 := Nat.mul_le_mul_right _ sm.to.1
   unfold list
   rw [List.length_append]
   omega
  have q18 : (a.wraps.map wrapB).flatten.length ≤ 40000 := by
   have h2 : ∀ l : List Wrap, (∀ w ∈ l, wrapR w = true) → (l.map wrapB).flatten.length ≤ l.length * 593 := fun l => by
    induction l with
    | nil => intro _; simp
    | cons w l ih =>
     intro h
     have hw := h w (by simp)
     have hw2 := wrap_sm hw
     simp only [wrapR, Bool.and_eq_true] at hw
     have hb := sealedB_len hw.2
     have e0 := bl w.box (by omega)
     have e1 := numI_le w.to (by omega)
     have e2 := numI_le w.eph (by omega)
     have e3 := ih fun x hx => h x (by simp [hx])
     have e4 : (wrapB w).length ≤ 593 := by
      unfold wrapB
      simp only [List.length_append]
      omega
     rw [List.map_cons, List.flatten_cons, List.length_append, List.length_cons, Nat.succ_mul]
     omega
   have h3 := h2 a.wraps sm.wraps.2
   have h4 : a.wraps.length * 593 ≤ 64 * 593 := Nat.mul_le_mul_right _ sm.wraps.1
   omega
  unfold coreB
  simp only [List.length_append]
  omega
 ·simp
theorem core_len {a : Ac.Act} : (core a).length ≤ 100000000 := Nat.le_trans core_len5 (by omega)
theorem bytes_len {a : Ac.Act} : (Ac.bytes a).length ≤ 100018 := by
 unfold Ac.bytes
 split
 ·rename_i hr
  have sm := (right_sm hr).sig
  simp only [sigR, Bool.and_eq_true, wi_iff] at sm
  have h := core_len5 (a := a)
  unfold core at h
  rw [if_pos hr] at h
  have n1 := numI_le a.sig.e (by omega)
  have n2 := numI_le a.sig.s (by omega)
  simp only [List.length_append]
  omega
 ·simp
theorem bytes_c (a : Ac.Act) (h : Sz a) : AC Tryz.prog 176 [actV a] [] (.st (Ac.bytes a)) [] := by
 refine AC.enter [215, 75] [] Tryz.func176 rfl (by decide) (by decide) (Nat.le_of_ble_eq_true rfl) (by kernel_rfl) ?_; refine zev ?_
 have hl := core_len (a := a)
 rw [bytes_core]
 refine run ?_
 refine cp (core_c a h) ?_
 by_cases hc : core a = []
 ·rw [if_pos hc]
  rw [hc]
  refine run ?_
  exact er0
 ·rw [if_neg hc]
  have hb : (core a == []) = false := by simpa using hc
  have hr : right a = true := by
   cases hr : right a with
   | true => rfl
   | false => exact absurd (bytes_wrong hr).2 hc
  have hs := (right_sm hr).sig
  simp only [sigR, Bool.and_eq_true, wi_iff] at hs
  have n1 := numI_le a.sig.e (by omega)
  have n2 := numI_le a.sig.s (by omega)
  generalize core a = c at *
  refine runf @hb ?_
  refine cp (num_c a.sig.e (by omega) (by omega)) ?_
  refine runf @hb ?_
  refine cp (num_c a.sig.s (by omega) (by omega)) ?_
  refine runf @hb ?_
  exact er0
end Go.Proofs.YtleljbiejeofgaaGreatDoor.Pe
end
section
namespace Go.Proofs.YtleljbiejeofgaaGreatDoor.Pe
open Go Go.RowKit
variable [Tab]
def dep (md : Region.Mode) (ops : Array Oper) (k : Nat) : Nat → Nat → Bool
 | 0, j => j == k
 | n + 1, j => j == k || (match ops[j]? with
  | none => false
  | some oj => oj.after.any fun e => Region.binds md e && dep md ops k n e.on)
theorem dep_ready {md : Region.Mode} {ops : Array Oper} {k : Nat} {listed : Array Bool} (hinv : ∀ n j, dep md ops k n j = true → listed.getD j true = false) {j : Nat} (hj : j ∈ Region.ready md ops listed) (hne : j ≠ k) (n : Nat) : dep md ops k n j = false := by
 have h0 : (j == k) = false := by simpa using hne
 cases n with
 | zero => exact h0
 | succ n =>
  obtain ⟨_, oj, hoj, hall⟩ := mem_ready.1 hj
  cases hd : dep md ops k (n + 1) j with
  | false => rfl
  | true =>
   exfalso
   unfold dep at hd
   rw [h0, hoj, Bool.false_or] at hd
   simp only at hd
   rw [Array.any_eq_true'] at hd
   obtain ⟨e, he, h2⟩ := hd
   simp only [Bool.and_eq_true] at h2
   have h3 := hinv n e.on h2.2
   have h1 := hall e he h2.1
   rcases Nat.lt_or_ge e.on listed.size with h' | h'
   ·simp [h'] at h3 h1; rw [h3] at h1; cases h1
   ·simp [Array.getElem?_eq_none h'] at h1
def freeC2 (cls : Op → Cls) (md : Region.Mode) (ops : Array Oper) (listed : Array Bool) (k : Nat) : Bool :=
 match ops[k]? with
 | none => false
 | some ok => (List.range ops.size).all fun j =>
  match ops[j]? with
  | none => true
  | some oj => j == k || listed.getD j true || dep md ops k 8 j || indep cls ops ok oj
def lateC (md : Region.Mode) (ops : Array Oper) : Bool := (List.range ops.size).all fun j => match ops[j]? with
 | none => true
 | some oj => oj.after.all fun e => !Region.binds md e || decide (e.on < j)
theorem lateC_dep {md : Region.Mode} {ops : Array Oper} (h : lateC md ops = true) (k : Nat) : ∀ n j, dep md ops k n j = true → k ≤ j := by
 intro n
 induction n with
 | zero => intro j hj; unfold dep at hj; have := beq_iff_eq.1 hj; omega
 | succ n ih =>
  intro j hj
  unfold dep at hj
  rw [Bool.or_eq_true] at hj
  rcases hj with hj | hj
  ·have := beq_iff_eq.1 hj; omega
  ·cases ho : ops[j]? with
   | none => rw [ho] at hj; cases hj
   | some oj =>
    rw [ho] at hj
    simp only at hj
    rw [Array.any_eq_true'] at hj
    obtain ⟨e, he, h2⟩ := hj
    simp only [Bool.and_eq_true] at h2
    have h3 := ih e.on h2.2
    have hlt : j < ops.size := (Array.getElem?_eq_some_iff.1 ho).1
    have h4 := (List.all_eq_true.1 h) j (List.mem_range.2 hlt)
    rw [ho] at h4
    simp only at h4
    have h5 := (Array.all_eq_true_iff_forall_mem.1 h4) e he
    rw [h2.1] at h5
    have : e.on < j := by simpa using h5
    omega
def lexC2 (cls : Op → Cls) (md : Region.Mode) (ops : Array Oper) : Nat → Nat → Array Bool → Bool
 | 0, _, listed => (Region.ready md ops listed).isEmpty
 | fuel + 1, k, listed => (Region.ready md ops listed).contains k && freeC2 cls md ops listed k && lexC2 cls md ops fuel (k + 1) (listed.setIfInBounds k true)
def lexOk2 (cls : Op → Cls) (ops : Array Oper) : Bool := lateC .any ops && lexC2 cls .any ops ops.size 0 (Array.replicate ops.size false)
theorem freeC2_spec {cls : Op → Cls} {md : Region.Mode} {ops : Array Oper} {listed : Array Bool} {k : Nat} {ok : Oper} (hk : ops[k]? = some ok) (h : freeC2 cls md ops listed k = true) :
  ∀ (j : Nat) oj, ops[j]? = some oj → j ≠ k → listed.getD j true = false → (∀ n, dep md ops k n j = false) → indep cls ops ok oj = true := by
 intro j oj hj hne hun hno
 unfold freeC2 at h
 rw [hk] at h
 simp only at h
 have hlt : j < ops.size := (Array.getElem?_eq_some_iff.1 hj).1
 have h1 := (List.all_eq_true.1 h) j (List.mem_range.2 hlt)
 rw [hj] at h1
 simp only [Bool.or_eq_true, beq_iff_eq] at h1
 rcases h1 with ((h1 | h1) | h1) | h1
 ·exact absurd h1 hne
 ·rw [hun] at h1; cases h1
 ·rw [hno 8] at h1; cases h1
 ·exact h1
section
variable {P : Program} {N N0 : Nat} {w0 : World} {g0 : Gh} {pf rf : List FuncId}
theorem wpX_first2 {cls : Op → Cls} {md : Region.Mode} {ops : Array Oper} {Q : Env → Store → Prop} {i : Nat} {oi : Oper} {v : AV} (hi : ops[i]? = some oi) :
  ∀ (fuel : Nat) (listed : Array Bool) (e : Env) (S Si : Store),
   (∀ n j, dep md ops i n j = true → listed.getD j true = false) →
   (∀ (j : Nat) oj, ops[j]? = some oj → j ≠ i → listed.getD j true = false → (∀ n, dep md ops i n j = false) → indep cls ops oi oj = true) →
   i ∈ Region.ready md ops listed → YieldsX P cls ops oi e S v Si →
   wpX P cls md ops Q fuel (listed.setIfInBounds i true) (Pe.put e oi.dst v) Si → wpX P cls md ops Q (fuel + 1) listed e S := by
 intro fuel
 induction fuel with
 | zero =>
  intro listed e S Si _ _ hr hy H
  refine ⟨fun h => (by rw [h] at hr; cases hr), fun j hj => ?_⟩
  by_cases hji : j = i
  ·subst hji; exact hy.xOp hi H
  ·have := ready_mono hj hji
   rw [H.1] at this
   cases this
 | succ fuel ih =>
  intro listed e S Si hinv hfree hr hy H
  refine ⟨fun h => (by rw [h] at hr; cases hr), fun j hj => ?_⟩
  by_cases hji : j = i
  ·subst hji; exact hy.xOp hi H
  ·have h1 := H.2 j (ready_mono hj hji)
   have hnd := dep_ready hinv hj hji
   obtain ⟨hjun, oj, hoj, hall⟩ := mem_ready.1 hj
   have h2 := xOp_swap hoj (hfree j oj hoj hji hjun hnd) hy h1
   have hinv' : ∀ n k, dep md ops i n k = true → (listed.setIfInBounds j true).getD k true = false := fun n k hk => by
    have hjk : j ≠ k := fun e => by rw [← e, hnd n] at hk; cases hk
    rw [getD_set_ne true hjk]
    exact hinv n k hk
   have hfree' : ∀ (k : Nat) ok, ops[k]? = some ok → k ≠ i → (listed.setIfInBounds j true).getD k true = false →
     (∀ n, dep md ops i n k = false) → indep cls ops oi ok = true := fun k ok hk hki hun hno => by
    refine hfree k ok hk hki ?_ hno
    by_cases hjk : j = k
    ·subst hjk; exact hjun
    ·rw [getD_set_ne true hjk] at hun; exact hun
   refine xOp_mono (fun e' S' h3 => ?_) h2
   obtain ⟨Si', h3, h4⟩ := h3
   refine ih (listed.setIfInBounds j true) e' S' Si' hinv' hfree' (ready_mono hr (Ne.symm hji)) h3 ?_
   rw [Array.setIfInBounds_comm _ _ hji]
   exact h4
theorem wpX_lex2 {cls : Op → Cls} {md : Region.Mode} {ops : Array Oper} {Q : Env → Store → Prop} (hlate : lateC md ops = true) : ∀ (l : List Oper) (k : Nat) (listed : Array Bool) (e : Env) (S : Store), (∀ j, l[j]? = ops[k + j]?) →
  (∀ j, k ≤ j → j < ops.size → listed.getD j true = false) → listed.size = ops.size →
  lexC2 cls md ops l.length k listed = true → wpL P cls ops Q l e S → wpX P cls md ops Q l.length listed e S
 | [], _, _, _, _, _, _, _, hB, h => ⟨by simpa [lexC2] using hB, h⟩
 | o :: l, k, listed, e, S, hl, hun, hsz, hB, h => by
  have h0 : ops[k]? = some o := by simpa using (hl 0).symm
  simp only [List.length_cons, lexC2, Bool.and_eq_true] at hB
  obtain ⟨⟨hr, hf⟩, hB'⟩ := hB
  have hst : xOp P cls ops k (wpL P cls ops Q l) e S := by unfold xOp; simp only [h0]; exact h
  obtain ⟨v, S', hy, hK⟩ := yieldsX_of_xOp h0 hst
  have hks : k < ops.size := (Array.getElem?_eq_some_iff.1 h0).1
  refine wpX_first2 h0 l.length listed e S S' (fun n j hj => ?_) (freeC2_spec h0 hf) (by simpa using hr) hy
   (wpX_lex2 hlate l (k + 1) _ _ _ (fun j => by have := hl (j + 1); simpa [Nat.add_assoc, Nat.add_comm 1 j] using this) (fun j h1 h2 => ?_) (by simpa using hsz) hB' hK)
  ·refine hun j (lateC_dep hlate k n j hj) ?_
   cases n with
   | zero => unfold dep at hj; have := beq_iff_eq.1 hj; omega
   | succ n =>
    unfold dep at hj
    rw [Bool.or_eq_true] at hj
    rcases hj with hj | hj
    ·have := beq_iff_eq.1 hj; omega
    ·cases ho : ops[j]? with
     | none => rw [ho] at hj; cases hj
     | some oj => exact (Array.getElem?_eq_some_iff.1 ho).1
  ·rw [getD_set_ne true (by omega)]
   exact hun j (by omega) h2
theorem region_draws2 {ro : Option Nat} {cls : Op → Cls} {ops : Array Oper} {id : Nat} {Q : Env → Store → Prop} {Q' : Exit → Act → World → Prop} {e : Env} {S : Store} {a : Act} {w : World} (hm : P.follows .mixedOrders = true) (hB : lexOk2 cls ops = true) (hds : dstsOk N ops = true)
  (hQ : ∀ e S a w, Conc N w0 g0 e S a w → Q e S → Q' .normal a w) (hc : Conc N w0 g0 e S a w) (h : wpL P cls ops Q ops.toList e S) : (Code.region id ops true).wpIn (wR ro) 0 P Q' a w := by
 refine wpIn_region_any hm (wpAny_of_x ro (cls := cls) hds hQ _ _ e S a _ (hc.draw _) ?_)
 simp only [lexOk2, Bool.and_eq_true] at hB
 have := wpX_lex2 (md := .any) hB.1 ops.toList 0 (Array.replicate ops.size false) e S (by simp) (fun j _ hj => by simp [hj]) (by simp) (by simpa using hB.2) h
 simpa using this
end
def codeOk2 (P : Program) (pf rf : List FuncId) (N : Nat) : Code → Bool
 | .region _ ops draw => dstsOk N ops && (!draw || lexOk2 (clsOf P pf rf) ops)
 | .seq a b => codeOk2 P pf rf N a && codeOk2 P pf rf N b
 | .cond _ a b => codeOk2 P pf rf N a && codeOk2 P pf rf N b
 | .block _ b => codeOk2 P pf rf N b
 | .loop b => codeOk2 P pf rf N b
 | _ => true
section
variable {P : Program} {N N0 : Nat} {w0 : World} {g0 : Gh} {pf rf : List FuncId}
theorem AW_ok2 {ro : Option Nat} (hm : P.follows .mixedOrders = true) (hN0 : g0.nid = N0) : ∀ (c : Code) (Q : AX → Env → Store → Prop) (e : Env) (S : Store) (a : Act) (w : World), codeOk2 P pf rf N c = true → Conc N w0 g0 e S a w → AW P pf rf N0 (eraseC c) Q e S → c.wpIn (wR ro) 0 P (toQ N w0 g0 Q) a w := by
 intro c
 induction c with
 | skip => intro Q e S a w _ hc h; exact wpIn_skip ⟨e, S, hc, h⟩
 | label l => intro Q e S a w _ hc h; exact wpIn_label ⟨e, S, hc, h⟩
 | ret => intro Q e S a w _ hc h; exact wpIn_ret ⟨e, S, hc, h⟩
 | exit id => intro Q e S a w _ hc h; exact wpIn_exit ⟨e, S, hc, h⟩
 | region id ops draw =>
  intro Q e S a w hok hc h
  simp only [codeOk2, Bool.and_eq_true] at hok
  simp only [eraseC, eraseG, AW] at h
  have hL := wpL_of_ARg ops.toList e S h
  have hQ : ∀ e S a w, Conc N w0 g0 e S a w → Q .norm e S → toQ N w0 g0 Q .normal a w := fun e S a w hc hq => ⟨e, S, hc, hq⟩
  cases draw with
  | false => exact region_list hok.1 hQ hc hL ro
  | true => exact region_draws2 hm (by simpa using hok.2) hok.1 hQ hc hL
 | seq x y ihx ihy =>
  intro Q e S a w hok hc h
  simp only [codeOk2, Bool.and_eq_true] at hok
  simp only [eraseC, eraseG, AW] at h
  refine wpIn_seq (Go.wpIn_mono (ihx _ e S a w hok.1 hc h) ?_)
  intro ex a' w' hq
  cases ex with
  | normal => obtain ⟨e', S', hc', h'⟩ := hq; exact ihy Q e' S' a' w' hok.2 hc' h'
  | exit id => exact hq
  | ret => exact hq
  | _ => exact hq.elim
 | cond c x y ihx ihy =>
  intro Q e S a w hok hc h
  simp only [codeOk2, Bool.and_eq_true] at hok
  simp only [eraseC, eraseG, AW] at h
  split at h
  ·rename_i b hb
   have hcb : a.eval c = .bool b := by
    obtain ⟨_, _, g, _, h4, _⟩ := hc
    have := ev_ok h4 c
    rw [hb] at this
    cases hv : a.eval c <;> rw [hv] at this <;> cases this
    rfl
   refine wpIn_cond_split hcb (fun ht => ihx Q e S a w hok.1 hc (h.1 ht)) (fun hf => ihy Q e S a w hok.2 hc (h.2 hf))
  ·exact h.elim
 | block id c ih =>
  intro Q e S a w hok hc h
  simp only [eraseC, eraseG, AW] at h
  refine wpIn_block (Go.wpIn_mono (ih _ e S a w hok hc h) ?_)
  intro ex a' w' hq
  cases ex with
  | normal => exact hq
  | exit i =>
   obtain ⟨e', S', hc', h'⟩ := hq
   simp only [blockQ] at h'
   simp only [Exit.inBlock]
   by_cases hi : i = id
   ·rw [if_pos hi] at h' ⊢; exact ⟨e', S', hc', h'⟩
   ·rw [if_neg hi] at h' ⊢; exact ⟨e', S', hc', h'⟩
  | ret => exact hq
  | _ => exact hq.elim
 | loop c ih =>
  intro Q e S a w hok hc h
  simp only [eraseC, eraseG, AW] at h
  obtain ⟨I, ⟨n, e', S', hwk, hI⟩, hround⟩ := h
  refine wpIn_loop_ghost (fun n a w => ∃ e S, Conc N w0 g0 e S a w ∧ I n e S) n ⟨e', S', hwk N w0 g0 a w hN0 hc, hI⟩ ?_
  rintro n a w ⟨e, S, hc, hI⟩
  refine Go.wpIn_mono (ih _ e S a w hok hc (hround n e S hI)) ?_
  intro ex a' w' hq
  cases ex with
  | normal =>
   obtain ⟨e1, S1, hc1, n', e2, S2, hlt, hwk', hI'⟩ := hq
   exact ⟨n', hlt, e2, S2, hwk' N w0 g0 a' w' hN0 hc1, hI'⟩
  | exit i => exact hq
  | ret => exact hq
  | _ => exact hq.elim
 | _ => intro Q e S a w _ _ h; exact h.elim
end
section
variable {P : Program}
theorem AC.enter2 {f : FuncId} {fn : Func} {c : Code} {args : List AV} {S S' : Store} {v : AV} (pf rf : List FuncId) (hf : P.funcs[f]? = some fn) (hb : fn.body = some c) (hname : fn.name ≠ "runtime.NumGoroutine") (hm : P.follows .mixedOrders = true)
  (hn : args.length ≤ fn.ntmps) (hok : codeOk2 P pf rf fn.ntmps c = true) (h : AW P pf rf S.length (eraseC c) (finQ P fn.results.toList S.length v S') (argEnv args) S) : AC P f args S v S' := by
 exact AC.of_wp hf hb hname hn fun w g a hg hc => AW_ok2 hm hg c _ (argEnv args) S a w hok hc h
end
end Go.Proofs.YtleljbiejeofgaaGreatDoor.Pe
end
