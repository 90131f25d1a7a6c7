/- Several texts in one, without what this claim does not use (tools/shake.py). -/
import Derived.Test.YtleljbiejeofgaaGreatDoorKa12
set_option linter.unusedSectionVars false
set_option linter.unusedVariables false
set_option linter.unusedSimpArgs false
section
namespace Go.Proofs.YtleljbiejeofgaaGreatDoor.Pe
open Go Go.RowKit Co Sg Ac It
set_option maxRecDepth 100000
set_option maxHeartbeats 4000000
theorem wrap_eqb (x y : Wrap) : ((x.to == y.to) && ((x.eph == y.eph) && ((x.box.nonce == y.box.nonce) && ((x.box.data == y.box.data) && (x.box.tag == y.box.tag))))) = decide (x = y) := by
 obtain ⟨x1, x2, ⟨x3, x4, x5⟩⟩ := x
 obtain ⟨y1, y2, ⟨y3, y4, y5⟩⟩ := y
 rw [Bool.eq_iff_iff]
 simp
theorem act_ext {a b : Ac.Act} (h : a.author = b.author ∧ a.seq = b.seq ∧ a.prev = b.prev ∧ a.kind = b.kind ∧ a.time = b.time ∧ a.object = b.object ∧ a.target = b.target ∧ a.scope = b.scope ∧ a.group = b.group ∧ a.to = b.to ∧ a.text = b.text ∧ a.body.nonce = b.body.nonce ∧ a.body.data = b.body.data ∧ a.body.tag = b.body.tag ∧ a.epoch = b.epoch ∧ a.wraps = b.wraps ∧ a.n = b.n ∧ a.m = b.m ∧ a.sig.e = b.sig.e ∧ a.sig.s = b.sig.s) : a = b := by
 obtain ⟨x1, x2, x3, x4, x5, x6, x7, x8, x9, x10, x11, ⟨x12, x13, x14⟩, x15, x16, x17, x18, ⟨x19, x20⟩⟩ := a
 obtain ⟨y1, y2, y3, y4, y5, y6, y7, y8, y9, y10, y11, ⟨y12, y13, y14⟩, y15, y16, y17, y18, ⟨y19, y20⟩⟩ := b
 simp only at h
 obtain ⟨rfl, rfl, rfl, rfl, rfl, rfl, rfl, rfl, rfl, rfl, rfl, rfl, rfl, rfl, rfl, rfl, rfl, rfl, rfl, rfl⟩ := h
 rfl
theorem list_eq_of {α : Type} {a b : List α} (hl : a.length = b.length) (h : ∀ j (h1 : j < a.length) (h2 : j < b.length), a[j] = b[j]) : a = b := List.ext_getElem hl h
theorem fsame12_c (a b : Ac.Act) (ha : a.to.length ≤ 140737488355328 ∧ a.wraps.length ≤ 140737488355328) (hb : b.to.length ≤ 140737488355328 ∧ b.wraps.length ≤ 140737488355328) : AC Tryz.prog 87 [actV a, actV b] [] (.bo (decide (a = b))) [] := by
 refine AC.enter2 [] [] Tryz.func87 rfl (by decide) (by decide) (Nat.le_of_ble_eq_true rfl) (by kernel_rfl) ?_; refine zev ?_
 obtain ⟨q, hq⟩ : ∃ q, decide (a = b) = q := ⟨_, rfl⟩
 rw [hq]
 have hsa : allSz 5 (a.wraps.map wrapV) = true := allSz_map 5 wrapV (fun _ => rfl) _
 have hsb : allSz 5 (b.wraps.map wrapV) = true := allSz_map 5 wrapV (fun _ => rfl) _
 by_cases l1 : a.to.length = b.to.length
 rotate_left
 ·obtain rfl : q = false := by rw [← hq]; exact decide_eq_false (fun e => l1 (by rw [e]))
  refine run ?_
  exact er0
 by_cases l2 : a.wraps.length = b.wraps.length
 rotate_left
 ·obtain rfl : q = false := by rw [← hq]; exact decide_eq_false (fun e => l2 (by rw [e]))
  refine run ?_
  exact er0
 refine run ?_
 refine loop_mk (fun m e S => e 2 = .ptr 0 0 ∧ e 3 = .ptr 1 0 ∧ S = [.cells (actL a), .cells (actL b)] ∧ ∃ k : Nat, e 5 = .it .i64 (k : Int) ∧ k ≤ a.to.length ∧ (∀ j (h1 : j < a.to.length) (h2 : j < b.to.length), j < k → a.to[j] = b.to[j]) ∧ m = a.to.length - k) a.to.length
  ⟨zsl, zsl, rfl, 0, zsl, by omega, fun j _ _ h => absurd h (Nat.not_lt_zero _), rfl⟩ ?_
 rintro m e S ⟨s2, s3, rfl, k, s5, hk, hall, rfl⟩
 by_cases hlt : k < a.to.length
 focus
  have hga : a.to[k]? = some a.to[k] := List.getElem?_eq_getElem hlt
  have hgb : b.to[k]? = some (b.to[k]'(by omega)) := List.getElem?_eq_getElem (by omega)
  have hlb : k < b.to.length := by omega
  by_cases he : a.to[k] = b.to[k]
  ·have qe : (a.to[k] == b.to[k]) = true := by rw [he]; exact beq_self_eq_true _
   refine runf (an @s2 (an @s3 (an @s5 (an @hga (an @hgb @qe))))) ?_
   exact round_mk (a.to.length - (k + 1)) (by omega) ⟨zsl, zsl, rfl, k + 1, zsl, by omega, (fun j h1 h2 hj => by
    by_cases ej : j = k
    ·subst ej; exact he
    ·exact hall j h1 h2 (by omega)), rfl⟩
  ·have qe : (a.to[k] == b.to[k]) = false := by simpa using he
   obtain rfl : q = false := by rw [← hq]; exact decide_eq_false (fun e => he (by subst e; rfl))
   refine runf (an @s2 (an @s3 (an @s5 (an @hga (an @hgb @qe))))) ?_
   exact er0
 have e_to : a.to = b.to := list_eq_of l1 fun j h1 h2 => hall j h1 h2 (by omega)
 refine runf (an @s2 (an @s3 @s5)) ?_
 refine loop_mk (fun m e S => e 2 = .ptr 0 0 ∧ e 3 = .ptr 1 0 ∧ S = [.cells (actL a), .cells (actL b)] ∧ ∃ k : Nat, e 6 = .it .i64 (k : Int) ∧ k ≤ a.wraps.length ∧ (∀ j (h1 : j < a.wraps.length) (h2 : j < b.wraps.length), j < k → a.wraps[j] = b.wraps[j]) ∧ m = a.wraps.length - k) a.wraps.length
  ⟨zsl, zsl, rfl, 0, zsl, by omega, fun j _ _ h => absurd h (Nat.not_lt_zero _), rfl⟩ ?_
 clear s2 s3 s5 hall hlt
 rintro m e S ⟨s2, s3, rfl, k, s6, hk, hall, rfl⟩
 by_cases hlt : k < a.wraps.length
 focus
  have hga : a.wraps[k]? = some a.wraps[k] := List.getElem?_eq_getElem hlt
  have hgb : b.wraps[k]? = some (b.wraps[k]'(by omega)) := List.getElem?_eq_getElem (by omega)
  have hlb : k < b.wraps.length := by omega
  have hw := wrap_eqb a.wraps[k] b.wraps[k]
  by_cases he : a.wraps[k] = b.wraps[k]
  ·rw [decide_eq_true he] at hw
   refine runf (an @s2 (an @s3 (an @s6 (an @hga (an @hgb (an @hsa (an @hsb @hw))))))) ?_
   exact round_mk (a.wraps.length - (k + 1)) (by omega) ⟨zsl, zsl, rfl, k + 1, zsl, by omega, (fun j h1 h2 hj => by
    by_cases ej : j = k
    ·subst ej; exact he
    ·exact hall j h1 h2 (by omega)), rfl⟩
  ·rw [decide_eq_false he] at hw
   obtain rfl : q = false := by rw [← hq]; exact decide_eq_false (fun e => he (by subst e; rfl))
   refine runf (an @s2 (an @s3 (an @s6 (an @hga (an @hgb (an @hsa (an @hsb @hw))))))) ?_
   exact er0
 have e_wraps : a.wraps = b.wraps := list_eq_of l2 fun j h1 h2 => hall j h1 h2 (by omega)
 by_cases h_author : a.author = b.author
 rotate_left
 ·have q_author : (a.author == b.author) = false := by simpa using h_author
  obtain rfl : q = false := by rw [← hq]; exact decide_eq_false (fun e => h_author (by rw [e]))
  refine runf (an @s2 (an @s3 (an @s6 @q_author))) ?_
  exact er0
 have q_author : (a.author == b.author) = true := by rw [h_author]; exact beq_self_eq_true _
 by_cases h_seq : a.seq = b.seq
 rotate_left
 ·have q_seq : (a.seq == b.seq) = false := by simpa using h_seq
  obtain rfl : q = false := by rw [← hq]; exact decide_eq_false (fun e => h_seq (by rw [e]))
  refine runf (an @s2 (an @s3 (an @s6 (an @q_author @q_seq)))) ?_
  exact er0
 have q_seq : (a.seq == b.seq) = true := by rw [h_seq]; exact beq_self_eq_true _
 by_cases h_prev : a.prev = b.prev
 rotate_left
 ·have q_prev : (a.prev == b.prev) = false := by simpa using h_prev
  obtain rfl : q = false := by rw [← hq]; exact decide_eq_false (fun e => h_prev (by rw [e]))
  refine runf (an @s2 (an @s3 (an @s6 (an @q_author (an @q_seq @q_prev))))) ?_
  exact er0
 have q_prev : (a.prev == b.prev) = true := by rw [h_prev]; exact beq_self_eq_true _
 by_cases h_kind : a.kind = b.kind
 rotate_left
 ·have q_kind : (a.kind == b.kind) = false := by simpa using h_kind
  obtain rfl : q = false := by rw [← hq]; exact decide_eq_false (fun e => h_kind (by rw [e]))
  refine runf (an @s2 (an @s3 (an @s6 (an @q_author (an @q_seq (an @q_prev @q_kind)))))) ?_
  exact er0
 have q_kind : (a.kind == b.kind) = true := by rw [h_kind]; exact beq_self_eq_true _
 by_cases h_time : a.time = b.time
 rotate_left
 ·have q_time : (a.time == b.time) = false := by simpa using h_time
  obtain rfl : q = false := by rw [← hq]; exact decide_eq_false (fun e => h_time (by rw [e]))
  refine runf (an @s2 (an @s3 (an @s6 (an @q_author (an @q_seq (an @q_prev (an @q_kind @q_time))))))) ?_
  exact er0
 have q_time : (a.time == b.time) = true := by rw [h_time]; exact beq_self_eq_true _
 by_cases h_object : a.object = b.object
 rotate_left
 ·have q_object : (a.object == b.object) = false := by simpa using h_object
  obtain rfl : q = false := by rw [← hq]; exact decide_eq_false (fun e => h_object (by rw [e]))
  refine runf (an @s2 (an @s3 (an @s6 (an @q_author (an @q_seq (an @q_prev (an @q_kind (an @q_time @q_object)))))))) ?_
  exact er0
 have q_object : (a.object == b.object) = true := by rw [h_object]; exact beq_self_eq_true _
 by_cases h_target : a.target = b.target
 rotate_left
 ·have q_target : (a.target == b.target) = false := by simpa using h_target
  obtain rfl : q = false := by rw [← hq]; exact decide_eq_false (fun e => h_target (by rw [e]))
  refine runf (an @s2 (an @s3 (an @s6 (an @q_author (an @q_seq (an @q_prev (an @q_kind (an @q_time (an @q_object @q_target))))))))) ?_
  exact er0
 have q_target : (a.target == b.target) = true := by rw [h_target]; exact beq_self_eq_true _
 by_cases h_scope : a.scope = b.scope
 rotate_left
 ·have q_scope : (a.scope == b.scope) = false := by simpa using h_scope
  obtain rfl : q = false := by rw [← hq]; exact decide_eq_false (fun e => h_scope (by rw [e]))
  refine runf (an @s2 (an @s3 (an @s6 (an @q_author (an @q_seq (an @q_prev (an @q_kind (an @q_time (an @q_object (an @q_target @q_scope)))))))))) ?_
  exact er0
 have q_scope : (a.scope == b.scope) = true := by rw [h_scope]; exact beq_self_eq_true _
 by_cases h_group : a.group = b.group
 rotate_left
 ·have q_group : (a.group == b.group) = false := by simpa using h_group
  obtain rfl : q = false := by rw [← hq]; exact decide_eq_false (fun e => h_group (by rw [e]))
  refine runf (an @s2 (an @s3 (an @s6 (an @q_author (an @q_seq (an @q_prev (an @q_kind (an @q_time (an @q_object (an @q_target (an @q_scope @q_group))))))))))) ?_
  exact er0
 have q_group : (a.group == b.group) = true := by rw [h_group]; exact beq_self_eq_true _
 by_cases h_text : a.text = b.text
 rotate_left
 ·have q_text : (a.text == b.text) = false := by simpa using h_text
  obtain rfl : q = false := by rw [← hq]; exact decide_eq_false (fun e => h_text (by rw [e]))
  refine runf (an @s2 (an @s3 (an @s6 (an @q_author (an @q_seq (an @q_prev (an @q_kind (an @q_time (an @q_object (an @q_target (an @q_scope (an @q_group @q_text)))))))))))) ?_
  exact er0
 have q_text : (a.text == b.text) = true := by rw [h_text]; exact beq_self_eq_true _
 by_cases h_body_nonce : a.body.nonce = b.body.nonce
 rotate_left
 ·have q_body_nonce : (a.body.nonce == b.body.nonce) = false := by simpa using h_body_nonce
  obtain rfl : q = false := by rw [← hq]; exact decide_eq_false (fun e => h_body_nonce (by rw [e]))
  refine runf (an @s2 (an @s3 (an @s6 (an @q_author (an @q_seq (an @q_prev (an @q_kind (an @q_time (an @q_object (an @q_target (an @q_scope (an @q_group (an @q_text @q_body_nonce))))))))))))) ?_
  exact er0
 have q_body_nonce : (a.body.nonce == b.body.nonce) = true := by rw [h_body_nonce]; exact beq_self_eq_true _
 by_cases h_body_data : a.body.data = b.body.data
 rotate_left
 ·have q_body_data : (a.body.data == b.body.data) = false := by simpa using h_body_data
  obtain rfl : q = false := by rw [← hq]; exact decide_eq_false (fun e => h_body_data (by rw [e]))
  refine runf (an @s2 (an @s3 (an @s6 (an @q_author (an @q_seq (an @q_prev (an @q_kind (an @q_time (an @q_object (an @q_target (an @q_scope (an @q_group (an @q_text (an @q_body_nonce @q_body_data)))))))))))))) ?_
  exact er0
 have q_body_data : (a.body.data == b.body.data) = true := by rw [h_body_data]; exact beq_self_eq_true _
 by_cases h_body_tag : a.body.tag = b.body.tag
 rotate_left
 ·have q_body_tag : (a.body.tag == b.body.tag) = false := by simpa using h_body_tag
  obtain rfl : q = false := by rw [← hq]; exact decide_eq_false (fun e => h_body_tag (by rw [e]))
  refine runf (an @s2 (an @s3 (an @s6 (an @q_author (an @q_seq (an @q_prev (an @q_kind (an @q_time (an @q_object (an @q_target (an @q_scope (an @q_group (an @q_text (an @q_body_nonce (an @q_body_data @q_body_tag))))))))))))))) ?_
  exact er0
 have q_body_tag : (a.body.tag == b.body.tag) = true := by rw [h_body_tag]; exact beq_self_eq_true _
 by_cases h_epoch : a.epoch = b.epoch
 rotate_left
 ·have q_epoch : (a.epoch == b.epoch) = false := by simpa using h_epoch
  obtain rfl : q = false := by rw [← hq]; exact decide_eq_false (fun e => h_epoch (by rw [e]))
  refine runf (an @s2 (an @s3 (an @s6 (an @q_author (an @q_seq (an @q_prev (an @q_kind (an @q_time (an @q_object (an @q_target (an @q_scope (an @q_group (an @q_text (an @q_body_nonce (an @q_body_data (an @q_body_tag @q_epoch)))))))))))))))) ?_
  exact er0
 have q_epoch : (a.epoch == b.epoch) = true := by rw [h_epoch]; exact beq_self_eq_true _
 by_cases h_n : a.n = b.n
 rotate_left
 ·have q_n : (a.n == b.n) = false := by simpa using h_n
  obtain rfl : q = false := by rw [← hq]; exact decide_eq_false (fun e => h_n (by rw [e]))
  refine runf (an @s2 (an @s3 (an @s6 (an @q_author (an @q_seq (an @q_prev (an @q_kind (an @q_time (an @q_object (an @q_target (an @q_scope (an @q_group (an @q_text (an @q_body_nonce (an @q_body_data (an @q_body_tag (an @q_epoch @q_n))))))))))))))))) ?_
  exact er0
 have q_n : (a.n == b.n) = true := by rw [h_n]; exact beq_self_eq_true _
 by_cases h_m : a.m = b.m
 rotate_left
 ·have q_m : (a.m == b.m) = false := by simpa using h_m
  obtain rfl : q = false := by rw [← hq]; exact decide_eq_false (fun e => h_m (by rw [e]))
  refine runf (an @s2 (an @s3 (an @s6 (an @q_author (an @q_seq (an @q_prev (an @q_kind (an @q_time (an @q_object (an @q_target (an @q_scope (an @q_group (an @q_text (an @q_body_nonce (an @q_body_data (an @q_body_tag (an @q_epoch (an @q_n @q_m)))))))))))))))))) ?_
  exact er0
 have q_m : (a.m == b.m) = true := by rw [h_m]; exact beq_self_eq_true _
 by_cases h_sig_e : a.sig.e = b.sig.e
 rotate_left
 ·have q_sig_e : (a.sig.e == b.sig.e) = false := by simpa using h_sig_e
  obtain rfl : q = false := by rw [← hq]; exact decide_eq_false (fun e => h_sig_e (by rw [e]))
  refine runf (an @s2 (an @s3 (an @s6 (an @q_author (an @q_seq (an @q_prev (an @q_kind (an @q_time (an @q_object (an @q_target (an @q_scope (an @q_group (an @q_text (an @q_body_nonce (an @q_body_data (an @q_body_tag (an @q_epoch (an @q_n (an @q_m @q_sig_e))))))))))))))))))) ?_
  exact er0
 have q_sig_e : (a.sig.e == b.sig.e) = true := by rw [h_sig_e]; exact beq_self_eq_true _
 by_cases h_sig_s : a.sig.s = b.sig.s
 rotate_left
 ·have q_sig_s : (a.sig.s == b.sig.s) = false := by simpa using h_sig_s
  obtain rfl : q = false := by rw [← hq]; exact decide_eq_false (fun e => h_sig_s (by rw [e]))
  refine runf (an @s2 (an @s3 (an @s6 (an @q_author (an @q_seq (an @q_prev (an @q_kind (an @q_time (an @q_object (an @q_target (an @q_scope (an @q_group (an @q_text (an @q_body_nonce (an @q_body_data (an @q_body_tag (an @q_epoch (an @q_n (an @q_m (an @q_sig_e @q_sig_s)))))))))))))))))))) ?_
  exact er0
 have q_sig_s : (a.sig.s == b.sig.s) = true := by rw [h_sig_s]; exact beq_self_eq_true _
 obtain rfl : q = true := by
  rw [← hq]
  exact decide_eq_true (act_ext ⟨h_author, h_seq, h_prev, h_kind, h_time, h_object, h_target, h_scope, h_group, e_to, h_text, h_body_nonce, h_body_data, h_body_tag, h_epoch, e_wraps, h_n, h_m, h_sig_e, h_sig_s⟩)
 refine runf (an @s2 (an @s3 (an @s6 (an @q_author (an @q_seq (an @q_prev (an @q_kind (an @q_time (an @q_object (an @q_target (an @q_scope (an @q_group (an @q_text (an @q_body_nonce (an @q_body_data (an @q_body_tag (an @q_epoch (an @q_n (an @q_m (an @q_sig_e @q_sig_s)))))))))))))))))))) ?_
 exact er0
theorem fsameDecision_c (a b : It.Decision) (ha : a.to.length ≤ 140737488355328) (hb : b.to.length ≤ 140737488355328) : AC Tryz.prog 88 [decisionV a, decisionV b] [] (.bo (decide (a = b))) [] := by
 refine AC.enter2 [] [] Tryz.func88 rfl (by decide) (by decide) (Nat.le_of_ble_eq_true rfl) (by kernel_rfl) ?_; refine zev ?_
 obtain ⟨q, hq⟩ : ∃ q, decide (a = b) = q := ⟨_, rfl⟩
 rw [hq]
 by_cases l1 : a.to.length = b.to.length
 rotate_left
 ·obtain rfl : q = false := by rw [← hq]; exact decide_eq_false (fun e => l1 (by rw [e]))
  refine run ?_
  exact er0
 refine run ?_
 refine loop_mk (fun m e S => e 2 = .ptr 0 0 ∧ e 3 = .ptr 1 0 ∧ S = [.cells (decL a), .cells (decL b)] ∧ ∃ k : Nat, e 5 = .it .i64 (k : Int) ∧ k ≤ a.to.length ∧ (∀ j (h1 : j < a.to.length) (h2 : j < b.to.length), j < k → a.to[j] = b.to[j]) ∧ m = a.to.length - k) a.to.length
  ⟨zsl, zsl, rfl, 0, zsl, by omega, fun j _ _ h => absurd h (Nat.not_lt_zero _), rfl⟩ ?_
 rintro m e S ⟨s2, s3, rfl, k, s5, hk, hall, rfl⟩
 by_cases hlt : k < a.to.length
 focus
  have hga : a.to[k]? = some a.to[k] := List.getElem?_eq_getElem hlt
  have hgb : b.to[k]? = some (b.to[k]'(by omega)) := List.getElem?_eq_getElem (by omega)
  have hlb : k < b.to.length := by omega
  by_cases he : a.to[k] = b.to[k]
  ·have qe : (a.to[k] == b.to[k]) = true := by rw [he]; exact beq_self_eq_true _
   refine runf (an @s2 (an @s3 (an @s5 (an @hga (an @hgb @qe))))) ?_
   exact round_mk (a.to.length - (k + 1)) (by omega) ⟨zsl, zsl, rfl, k + 1, zsl, by omega, (fun j h1 h2 hj => by
    by_cases ej : j = k
    ·subst ej; exact he
    ·exact hall j h1 h2 (by omega)), rfl⟩
  ·have qe : (a.to[k] == b.to[k]) = false := by simpa using he
   obtain rfl : q = false := by rw [← hq]; exact decide_eq_false (fun e => he (by subst e; rfl))
   refine runf (an @s2 (an @s3 (an @s5 (an @hga (an @hgb @qe))))) ?_
   exact er0
 have e_to : a.to = b.to := list_eq_of l1 fun j h1 h2 => hall j h1 h2 (by omega)
 by_cases h_server : a.server = b.server
 rotate_left
 ·have q_server : (a.server == b.server) = false := by simpa using h_server
  obtain rfl : q = false := by rw [← hq]; exact decide_eq_false (fun e => h_server (by rw [e]))
  refine runf (an @s2 (an @s3 (an @s5 @q_server))) ?_
  exact er0
 have q_server : (a.server == b.server) = true := by rw [h_server]; exact beq_self_eq_true _
 by_cases h_number : a.number = b.number
 rotate_left
 ·have q_number : (a.number == b.number) = false := by simpa using h_number
  obtain rfl : q = false := by rw [← hq]; exact decide_eq_false (fun e => h_number (by rw [e]))
  refine runf (an @s2 (an @s3 (an @s5 (an @q_server @q_number)))) ?_
  exact er0
 have q_number : (a.number == b.number) = true := by rw [h_number]; exact beq_self_eq_true _
 by_cases h_kind : a.kind = b.kind
 rotate_left
 ·have q_kind : (a.kind == b.kind) = false := by simpa using h_kind
  obtain rfl : q = false := by rw [← hq]; exact decide_eq_false (fun e => h_kind (by rw [e]))
  refine runf (an @s2 (an @s3 (an @s5 (an @q_server (an @q_number @q_kind))))) ?_
  exact er0
 have q_kind : (a.kind == b.kind) = true := by rw [h_kind]; exact beq_self_eq_true _
 by_cases h_actor : a.actor = b.actor
 rotate_left
 ·have q_actor : (a.actor == b.actor) = false := by simpa using h_actor
  obtain rfl : q = false := by rw [← hq]; exact decide_eq_false (fun e => h_actor (by rw [e]))
  refine runf (an @s2 (an @s3 (an @s5 (an @q_server (an @q_number (an @q_kind @q_actor)))))) ?_
  exact er0
 have q_actor : (a.actor == b.actor) = true := by rw [h_actor]; exact beq_self_eq_true _
 by_cases h_object : a.object = b.object
 rotate_left
 ·have q_object : (a.object == b.object) = false := by simpa using h_object
  obtain rfl : q = false := by rw [← hq]; exact decide_eq_false (fun e => h_object (by rw [e]))
  refine runf (an @s2 (an @s3 (an @s5 (an @q_server (an @q_number (an @q_kind (an @q_actor @q_object))))))) ?_
  exact er0
 have q_object : (a.object == b.object) = true := by rw [h_object]; exact beq_self_eq_true _
 by_cases h_text : a.text = b.text
 rotate_left
 ·have q_text : (a.text == b.text) = false := by simpa using h_text
  obtain rfl : q = false := by rw [← hq]; exact decide_eq_false (fun e => h_text (by rw [e]))
  refine runf (an @s2 (an @s3 (an @s5 (an @q_server (an @q_number (an @q_kind (an @q_actor (an @q_object @q_text)))))))) ?_
  exact er0
 have q_text : (a.text == b.text) = true := by rw [h_text]; exact beq_self_eq_true _
 by_cases h_n : a.n = b.n
 rotate_left
 ·have q_n : (a.n == b.n) = false := by simpa using h_n
  obtain rfl : q = false := by rw [← hq]; exact decide_eq_false (fun e => h_n (by rw [e]))
  refine runf (an @s2 (an @s3 (an @s5 (an @q_server (an @q_number (an @q_kind (an @q_actor (an @q_object (an @q_text @q_n))))))))) ?_
  exact er0
 have q_n : (a.n == b.n) = true := by rw [h_n]; exact beq_self_eq_true _
 by_cases h_frm : a.frm = b.frm
 rotate_left
 ·have q_frm : (a.frm == b.frm) = false := by simpa using h_frm
  obtain rfl : q = false := by rw [← hq]; exact decide_eq_false (fun e => h_frm (by rw [e]))
  refine runf (an @s2 (an @s3 (an @s5 (an @q_server (an @q_number (an @q_kind (an @q_actor (an @q_object (an @q_text (an @q_n @q_frm)))))))))) ?_
  exact er0
 have q_frm : (a.frm == b.frm) = true := by rw [h_frm]; exact beq_self_eq_true _
 by_cases h_til : a.til = b.til
 rotate_left
 ·have q_til : (a.til == b.til) = false := by simpa using h_til
  obtain rfl : q = false := by rw [← hq]; exact decide_eq_false (fun e => h_til (by rw [e]))
  refine runf (an @s2 (an @s3 (an @s5 (an @q_server (an @q_number (an @q_kind (an @q_actor (an @q_object (an @q_text (an @q_n (an @q_frm @q_til))))))))))) ?_
  exact er0
 have q_til : (a.til == b.til) = true := by rw [h_til]; exact beq_self_eq_true _
 by_cases h_sig_e : a.sig.e = b.sig.e
 rotate_left
 ·have q_sig_e : (a.sig.e == b.sig.e) = false := by simpa using h_sig_e
  obtain rfl : q = false := by rw [← hq]; exact decide_eq_false (fun e => h_sig_e (by rw [e]))
  refine runf (an @s2 (an @s3 (an @s5 (an @q_server (an @q_number (an @q_kind (an @q_actor (an @q_object (an @q_text (an @q_n (an @q_frm (an @q_til @q_sig_e)))))))))))) ?_
  exact er0
 have q_sig_e : (a.sig.e == b.sig.e) = true := by rw [h_sig_e]; exact beq_self_eq_true _
 by_cases h_sig_s : a.sig.s = b.sig.s
 rotate_left
 ·have q_sig_s : (a.sig.s == b.sig.s) = false := by simpa using h_sig_s
  obtain rfl : q = false := by rw [← hq]; exact decide_eq_false (fun e => h_sig_s (by rw [e]))
  refine runf (an @s2 (an @s3 (an @s5 (an @q_server (an @q_number (an @q_kind (an @q_actor (an @q_object (an @q_text (an @q_n (an @q_frm (an @q_til (an @q_sig_e @q_sig_s))))))))))))) ?_
  exact er0
 have q_sig_s : (a.sig.s == b.sig.s) = true := by rw [h_sig_s]; exact beq_self_eq_true _
 obtain rfl : q = true := by
  rw [← hq]
  refine decide_eq_true ?_
  cases a; cases b
  rename_i x1 x2 x3 x4 x5 x6 x7 x8 x9 x10 x11 y1 y2 y3 y4 y5 y6 y7 y8 y9 y10 y11
  cases x11; cases y11
  simp only at *
  simp only [*]
 refine runf (an @s2 (an @s3 (an @s5 (an @q_server (an @q_number (an @q_kind (an @q_actor (an @q_object (an @q_text (an @q_n (an @q_frm (an @q_til (an @q_sig_e @q_sig_s))))))))))))) ?_
 exact er0
theorem fsame13_c (a b : It.Item) (ha : Lz a) (hb : Lz b) : AC Tryz.prog 41 [itemV a, itemV b] [] (.bo (decide (a = b))) [] := by
 refine AC.enter2 [87, 88] [] Tryz.func41 rfl (by decide) (by decide) (Nat.le_of_ble_eq_true rfl) (by kernel_rfl) ?_; refine zev ?_
 obtain ⟨q, hq⟩ : ∃ q, decide (a = b) = q := ⟨_, rfl⟩
 rw [hq]
 have k1 := fsame12_c a.act b.act ⟨ha.to, ha.wraps⟩ ⟨hb.to, hb.wraps⟩
 have k2 := fsameDecision_c a.decision b.decision ha.dto hb.dto
 have qc := claim_eq a.claim b.claim
 have qb := ballot_eq a.ballot b.ballot
 by_cases h1 : a.act = b.act
 rotate_left
 ·obtain rfl : q = false := by rw [← hq]; exact decide_eq_false (fun e => h1 (by rw [e]))
  rw [decide_eq_false h1] at k1
  refine run ?_
  refine cp k1 ?_
  refine run ?_
  exact er0
 rw [decide_eq_true h1] at k1
 by_cases h2 : a.kind = b.kind
 rotate_left
 ·obtain rfl : q = false := by rw [← hq]; exact decide_eq_false (fun e => h2 (by rw [e]))
  have q2 : (a.kind == b.kind) = false := beqF h2
  refine run ?_
  refine cp k1 ?_
  refine runf @q2 ?_
  exact er0
 have q2 : (a.kind == b.kind) = true := by rw [h2]; exact beq_self_eq_true _
 by_cases h3 : a.claim = b.claim
 rotate_left
 ·obtain rfl : q = false := by rw [← hq]; exact decide_eq_false (fun e => h3 (by rw [e]))
  rw [decide_eq_false h3] at qc
  refine run ?_
  refine cp k1 ?_
  refine runf (an @q2 @qc) ?_
  exact er0
 rw [decide_eq_true h3] at qc
 by_cases h4 : a.ballot = b.ballot
 rotate_left
 ·obtain rfl : q = false := by rw [← hq]; exact decide_eq_false (fun e => h4 (by rw [e]))
  rw [decide_eq_false h4] at qb
  refine run ?_
  refine cp k1 ?_
  refine runf (an @q2 (an @qc @qb)) ?_
  exact er0
 rw [decide_eq_true h4] at qb
 have e5 : decide (a.decision = b.decision) = q := by
  rw [← hq, Bool.eq_iff_iff, decide_eq_true_eq, decide_eq_true_eq]
  constructor
  ·intro h5
   cases a; cases b
   simp only at *
   simp only [*]
  ·intro e; rw [e]
 rw [e5] at k2
 refine run ?_
 refine cp k1 ?_
 refine runf (an @q2 (an @qc @qb)) ?_
 refine cp k2 ?_
 refine run ?_
 exact er0
end Go.Proofs.YtleljbiejeofgaaGreatDoor.Pe
end
section
namespace Go.Proofs.YtleljbiejeofgaaGreatDoor.Pe
open Go Go.RowKit Co Sg Ac It Sl
set_option maxRecDepth 100000
set_option maxHeartbeats 4000000
theorem fsame15_c (a b : List It.Entry) (ha : EOk a) (hb : EOk b) : AC Tryz.prog 17 [entriesV a, entriesV b] [] (.bo (decide (a = b))) [] := by
 refine AC.enter2 [41] [] Tryz.func17 rfl (by decide) (by decide) (Nat.le_of_ble_eq_true rfl) (by kernel_rfl) ?_; refine zev ?_
 obtain ⟨q, hq⟩ : ∃ q, decide (a = b) = q := ⟨_, rfl⟩
 rw [hq]
 have hal := ha.len
 have hbl := hb.len
 have hsa := entries_sz a
 have hsb := entries_sz b
 by_cases l1 : a.length = b.length
 rotate_left
 ·obtain rfl : q = false := by rw [← hq]; exact decide_eq_false (fun e => l1 (by rw [e]))
  refine run ?_
  exact er0
 refine run ?_
 refine loop_mk (fun m e S => S = [] ∧ e 0 = entriesV a ∧ e 1 = entriesV b ∧ ∃ k : Nat, e 5 = .it .i64 (k : Int) ∧ k ≤ a.length ∧ (∀ j (h1 : j < a.length) (h2 : j < b.length), j < k → a[j] = b[j]) ∧ m = a.length - k) a.length
  ⟨rfl, zsl, zsl, 0, zsl, by omega, fun j _ _ h => absurd h (Nat.not_lt_zero _), rfl⟩ ?_
 rintro m e S ⟨rfl, s0, s1, k, s5, hk, hall, rfl⟩
 by_cases hlt : k < a.length
 ·have hlb : k < b.length := by omega
  have hga : a[k]? = some a[k] := List.getElem?_eq_getElem hlt
  have hgb : b[k]? = some b[k] := List.getElem?_eq_getElem hlb
  have za := ha.iz a[k] (List.getElem_mem hlt)
  have zb := hb.iz b[k] (List.getElem_mem hlb)
  have hbad : a[k] ≠ b[k] → q = false := fun h => by rw [← hq]; exact decide_eq_false (fun e => h (by subst e; rfl))
  have hgood : a[k] = b[k] → ∀ j (h1 : j < a.length) (h2 : j < b.length), j < k + 1 → a[j] = b[j] := fun h j h1 h2 hj => by
   by_cases ej : j = k
   ·subst ej; exact h
   ·exact hall j h1 h2 (by omega)
  generalize a[k] = x at *
  generalize b[k] = y at *
  have ks := fsame13_c x.item y.item za.lz zb.lz
  by_cases hi : x.item = y.item
  rotate_left
  ·rw [decide_eq_false hi] at ks
   obtain rfl := hbad fun e => hi (by rw [e])
   refine runf (an @s0 (an @s1 (an @s5 (an @hga (an @hgb (an @hsa @hsb)))))) ?_
   refine cp ks ?_
   refine runf (an @s0 (an @s1 @s5)) ?_
   exact er0
  rw [decide_eq_true hi] at ks
  by_cases ht : x.time = y.time
  ·have qt : (x.time != y.time) = false := bneF ht
   refine runf (an @s0 (an @s1 (an @s5 (an @hga (an @hgb (an @hsa @hsb)))))) ?_
   refine cp ks ?_
   refine runf (an @s0 (an @s1 (an @s5 (an @hga (an @hgb (an @hsa (an @hsb @qt))))))) ?_
   exact round_mk (a.length - (k + 1)) (by omega) ⟨rfl, zsl, zsl, k + 1, zsl, by omega, hgood (by cases x; cases y; simp only at ht hi; rw [ht, hi]), rfl⟩
  ·have qt : (x.time != y.time) = true := bneT ht
   obtain rfl := hbad fun e => ht (by rw [e])
   refine runf (an @s0 (an @s1 (an @s5 (an @hga (an @hgb (an @hsa @hsb)))))) ?_
   refine cp ks ?_
   refine runf (an @s0 (an @s1 (an @s5 (an @hga (an @hgb (an @hsa (an @hsb @qt))))))) ?_
   exact er0
 ·obtain rfl : q = true := by rw [← hq]; exact decide_eq_true (list_eq_of l1 fun j h1 h2 => hall j h1 h2 (by omega))
  refine runf (an @s0 (an @s1 @s5)) ?_
  exact er0
end Go.Proofs.YtleljbiejeofgaaGreatDoor.Pe
end
