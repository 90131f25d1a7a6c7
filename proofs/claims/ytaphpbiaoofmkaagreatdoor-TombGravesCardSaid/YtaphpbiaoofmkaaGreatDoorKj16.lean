/- Several texts in one, without what this claim does not use (tools/shake.py). -/
import Derived.Test.YtaphpbiaoofmkaaGreatDoorKj15
set_option linter.unusedSectionVars false
set_option linter.unusedVariables false
set_option linter.unusedSimpArgs false
section
namespace Go.Proofs.YtaphpbiaoofmkaaGreatDoor.Pe
open Go Go.RowKit Co Sg Ac It
set_option maxRecDepth 100000
set_option maxHeartbeats 4000000
theorem wrap_eqb (x y : Wrap) : ((x.to == y.to) && ((x.eph == y.eph) && ((x.box.nonce == y.box.nonce) && ((x.box.data == y.box.data) && (x.box.tag == y.box.tag))))) = decide (x = y) := by
 obtain ⟨x1, x2, ⟨x3, x4, x5⟩⟩ := x
 obtain ⟨y1, y2, ⟨y3, y4, y5⟩⟩ := y
 rw [Bool.eq_iff_iff]
 simp
theorem act_ext {a b : Ac.Act} (h : a.author = b.author ∧ a.seq = b.seq ∧ a.prev = b.prev ∧ a.kind = b.kind ∧ a.time = b.time ∧ a.object = b.object ∧ a.target = b.target ∧ a.scope = b.scope ∧ a.group = b.group ∧ a.to = b.to ∧ a.text = b.text ∧ a.body.nonce = b.body.nonce ∧ a.body.data = b.body.data ∧ a.body.tag = b.body.tag ∧ a.epoch = b.epoch ∧ a.wraps = b.wraps ∧ a.n = b.n ∧ a.m = b.m ∧ a.sig.e = b.sig.e ∧ a.sig.s = b.sig.s) : a = b := by
 obtain ⟨x1, x2, x3, x4, x5, x6, x7, x8, x9, x10, x11, ⟨x12, x13, x14⟩, x15, x16, x17, x18, ⟨x19, x20⟩⟩ := a
 obtain ⟨y1, y2, y3, y4, y5, y6, y7, y8, y9, y10, y11, ⟨y12, y13, y14⟩, y15, y16, y17, y18, ⟨y19, y20⟩⟩ := b
 simp only at h
 obtain ⟨rfl, rfl, rfl, rfl, rfl, rfl, rfl, rfl, rfl, rfl, rfl, rfl, rfl, rfl, rfl, rfl, rfl, rfl, rfl, rfl⟩ := h
 rfl
theorem list_eq_of {α : Type} {a b : List α} (hl : a.length = b.length) (h : ∀ j (h1 : j < a.length) (h2 : j < b.length), a[j] = b[j]) : a = b := List.ext_getElem hl h
theorem fsame12_c (a b : Ac.Act) (ha : a.to.length ≤ 140737488355328 ∧ a.wraps.length ≤ 140737488355328) (hb : b.to.length ≤ 140737488355328 ∧ b.wraps.length ≤ 140737488355328) : AC Tryz.prog 16 [actV a, actV b] [] (.bo (decide (a = b))) [] := by
 refine AC.enter2 [] [] Tryz.func16 rfl (by decide) (by decide) (Nat.le_of_ble_eq_true rfl) (by kernel_rfl) ?_; simp only [eraseC, eraseO, List.map_cons, List.map_nil, List.map_toArray, List.getElem?_toArray, List.getElem?_cons_zero, List.getElem?_cons_succ, Option.bind_some, Option.bind_none, List.append_eq, List.cons_append, List.nil_append]
 obtain ⟨q, hq⟩ : ∃ q, decide (a = b) = q := ⟨_, rfl⟩
 rw [hq]
 have hsa : allSz 5 (a.wraps.map wrapV) = true := allSz_map 5 wrapV (fun _ => rfl) _
 have hsb : allSz 5 (b.wraps.map wrapV) = true := allSz_map 5 wrapV (fun _ => rfl) _
 by_cases l1 : a.to.length = b.to.length
 rotate_left
 ·obtain rfl : q = false := by rw [← hq]; exact decide_eq_false (fun e => l1 (by rw [e]))
  refine run ?_
  exact er0
 by_cases l2 : a.wraps.length = b.wraps.length
 rotate_left
 ·obtain rfl : q = false := by rw [← hq]; exact decide_eq_false (fun e => l2 (by rw [e]))
  refine run ?_
  exact er0
 refine run ?_
 refine loop_mk (fun m e S => e 2 = .ptr 0 0 ∧ e 3 = .ptr 1 0 ∧ S = [.cells (actL a), .cells (actL b)] ∧ ∃ k : Nat, e 5 = .it .i64 (k : Int) ∧ k ≤ a.to.length ∧ (∀ j (h1 : j < a.to.length) (h2 : j < b.to.length), j < k → a.to[j] = b.to[j]) ∧ m = a.to.length - k) a.to.length
  ⟨(by first | rfl | (simp only [↓upd_apply, ↓put_some, ↓reduceIte, Nat.reduceEqDiff, ↓argEnv_zero, ↓argEnv_succ, *]; done)), (by first | rfl | (simp only [↓upd_apply, ↓put_some, ↓reduceIte, Nat.reduceEqDiff, ↓argEnv_zero, ↓argEnv_succ, *]; done)), rfl, 0, (by first | rfl | (simp only [↓upd_apply, ↓put_some, ↓reduceIte, Nat.reduceEqDiff, ↓argEnv_zero, ↓argEnv_succ, *]; done)), by omega, fun j _ _ h => absurd h (Nat.not_lt_zero _), rfl⟩ ?_
 rintro m e S ⟨s2, s3, rfl, k, s5, hk, hall, rfl⟩
 by_cases hlt : k < a.to.length
 focus
  have hga : a.to[k]? = some a.to[k] := List.getElem?_eq_getElem hlt
  have hgb : b.to[k]? = some (b.to[k]'(by omega)) := List.getElem?_eq_getElem (by omega)
  have hlb : k < b.to.length := by omega
  by_cases he : a.to[k] = b.to[k]
  ·have qe : (a.to[k] == b.to[k]) = true := by rw [he]; exact beq_self_eq_true _
   refine runf (an @s2 (an @s3 (an @s5 (an @hga (an @hgb @qe))))) ?_
   exact round_mk (a.to.length - (k + 1)) (by omega) ⟨(by first | rfl | (simp only [↓upd_apply, ↓put_some, ↓reduceIte, Nat.reduceEqDiff, ↓argEnv_zero, ↓argEnv_succ, *]; done)), (by first | rfl | (simp only [↓upd_apply, ↓put_some, ↓reduceIte, Nat.reduceEqDiff, ↓argEnv_zero, ↓argEnv_succ, *]; done)), rfl, k + 1, (by first | rfl | (simp only [↓upd_apply, ↓put_some, ↓reduceIte, Nat.reduceEqDiff, ↓argEnv_zero, ↓argEnv_succ, *]; done)), by omega, (fun j h1 h2 hj => by
    by_cases ej : j = k
    ·subst ej; exact he
    ·exact hall j h1 h2 (by omega)), rfl⟩
  ·have qe : (a.to[k] == b.to[k]) = false := by simpa using he
   obtain rfl : q = false := by rw [← hq]; exact decide_eq_false (fun e => he (by subst e; rfl))
   refine runf (an @s2 (an @s3 (an @s5 (an @hga (an @hgb @qe))))) ?_
   exact er0
 have e_to : a.to = b.to := list_eq_of l1 fun j h1 h2 => hall j h1 h2 (by omega)
 refine runf (an @s2 (an @s3 @s5)) ?_
 refine loop_mk (fun m e S => e 2 = .ptr 0 0 ∧ e 3 = .ptr 1 0 ∧ S = [.cells (actL a), .cells (actL b)] ∧ ∃ k : Nat, e 6 = .it .i64 (k : Int) ∧ k ≤ a.wraps.length ∧ (∀ j (h1 : j < a.wraps.length) (h2 : j < b.wraps.length), j < k → a.wraps[j] = b.wraps[j]) ∧ m = a.wraps.length - k) a.wraps.length
  ⟨(by first | rfl | (simp only [↓upd_apply, ↓put_some, ↓reduceIte, Nat.reduceEqDiff, ↓argEnv_zero, ↓argEnv_succ, *]; done)), (by first | rfl | (simp only [↓upd_apply, ↓put_some, ↓reduceIte, Nat.reduceEqDiff, ↓argEnv_zero, ↓argEnv_succ, *]; done)), rfl, 0, (by first | rfl | (simp only [↓upd_apply, ↓put_some, ↓reduceIte, Nat.reduceEqDiff, ↓argEnv_zero, ↓argEnv_succ, *]; done)), by omega, fun j _ _ h => absurd h (Nat.not_lt_zero _), rfl⟩ ?_
 clear s2 s3 s5 hall hlt
 rintro m e S ⟨s2, s3, rfl, k, s6, hk, hall, rfl⟩
 by_cases hlt : k < a.wraps.length
 focus
  have hga : a.wraps[k]? = some a.wraps[k] := List.getElem?_eq_getElem hlt
  have hgb : b.wraps[k]? = some (b.wraps[k]'(by omega)) := List.getElem?_eq_getElem (by omega)
  have hlb : k < b.wraps.length := by omega
  have hw := wrap_eqb a.wraps[k] b.wraps[k]
  by_cases he : a.wraps[k] = b.wraps[k]
  ·rw [decide_eq_true he] at hw
   refine runf (an @s2 (an @s3 (an @s6 (an @hga (an @hgb (an @hsa (an @hsb @hw))))))) ?_
   exact round_mk (a.wraps.length - (k + 1)) (by omega) ⟨(by first | rfl | (simp only [↓upd_apply, ↓put_some, ↓reduceIte, Nat.reduceEqDiff, ↓argEnv_zero, ↓argEnv_succ, *]; done)), (by first | rfl | (simp only [↓upd_apply, ↓put_some, ↓reduceIte, Nat.reduceEqDiff, ↓argEnv_zero, ↓argEnv_succ, *]; done)), rfl, k + 1, (by first | rfl | (simp only [↓upd_apply, ↓put_some, ↓reduceIte, Nat.reduceEqDiff, ↓argEnv_zero, ↓argEnv_succ, *]; done)), by omega, (fun j h1 h2 hj => by
    by_cases ej : j = k
    ·subst ej; exact he
    ·exact hall j h1 h2 (by omega)), rfl⟩
  ·rw [decide_eq_false he] at hw
   obtain rfl : q = false := by rw [← hq]; exact decide_eq_false (fun e => he (by subst e; rfl))
   refine runf (an @s2 (an @s3 (an @s6 (an @hga (an @hgb (an @hsa (an @hsb @hw))))))) ?_
   exact er0
 have e_wraps : a.wraps = b.wraps := list_eq_of l2 fun j h1 h2 => hall j h1 h2 (by omega)
 by_cases h_author : a.author = b.author
 rotate_left
 ·have q_author : (a.author == b.author) = false := by simpa using h_author
  obtain rfl : q = false := by rw [← hq]; exact decide_eq_false (fun e => h_author (by rw [e]))
  refine runf (an @s2 (an @s3 (an @s6 @q_author))) ?_
  exact er0
 have q_author : (a.author == b.author) = true := by rw [h_author]; exact beq_self_eq_true _
 by_cases h_seq : a.seq = b.seq
 rotate_left
 ·have q_seq : (a.seq == b.seq) = false := by simpa using h_seq
  obtain rfl : q = false := by rw [← hq]; exact decide_eq_false (fun e => h_seq (by rw [e]))
  refine runf (an @s2 (an @s3 (an @s6 (an @q_author @q_seq)))) ?_
  exact er0
 have q_seq : (a.seq == b.seq) = true := by rw [h_seq]; exact beq_self_eq_true _
 by_cases h_prev : a.prev = b.prev
 rotate_left
 ·have q_prev : (a.prev == b.prev) = false := by simpa using h_prev
  obtain rfl : q = false := by rw [← hq]; exact decide_eq_false (fun e => h_prev (by rw [e]))
  refine runf (an @s2 (an @s3 (an @s6 (an @q_author (an @q_seq @q_prev))))) ?_
  exact er0
 have q_prev : (a.prev == b.prev) = true := by rw [h_prev]; exact beq_self_eq_true _
 by_cases h_kind : a.kind = b.kind
 rotate_left
 ·have q_kind : (a.kind == b.kind) = false := by simpa using h_kind
  obtain rfl : q = false := by rw [← hq]; exact decide_eq_false (fun e => h_kind (by rw [e]))
  refine runf (an @s2 (an @s3 (an @s6 (an @q_author (an @q_seq (an @q_prev @q_kind)))))) ?_
  exact er0
 have q_kind : (a.kind == b.kind) = true := by rw [h_kind]; exact beq_self_eq_true _
 by_cases h_time : a.time = b.time
 rotate_left
 ·have q_time : (a.time == b.time) = false := by simpa using h_time
  obtain rfl : q = false := by rw [← hq]; exact decide_eq_false (fun e => h_time (by rw [e]))
  refine runf (an @s2 (an @s3 (an @s6 (an @q_author (an @q_seq (an @q_prev (an @q_kind @q_time))))))) ?_
  exact er0
 have q_time : (a.time == b.time) = true := by rw [h_time]; exact beq_self_eq_true _
 by_cases h_object : a.object = b.object
 rotate_left
 ·have q_object : (a.object == b.object) = false := by simpa using h_object
  obtain rfl : q = false := by rw [← hq]; exact decide_eq_false (fun e => h_object (by rw [e]))
  refine runf (an @s2 (an @s3 (an @s6 (an @q_author (an @q_seq (an @q_prev (an @q_kind (an @q_time @q_object)))))))) ?_
  exact er0
 have q_object : (a.object == b.object) = true := by rw [h_object]; exact beq_self_eq_true _
 by_cases h_target : a.target = b.target
 rotate_left
 ·have q_target : (a.target == b.target) = false := by simpa using h_target
  obtain rfl : q = false := by rw [← hq]; exact decide_eq_false (fun e => h_target (by rw [e]))
  refine runf (an @s2 (an @s3 (an @s6 (an @q_author (an @q_seq (an @q_prev (an @q_kind (an @q_time (an @q_object @q_target))))))))) ?_
  exact er0
 have q_target : (a.target == b.target) = true := by rw [h_target]; exact beq_self_eq_true _
 by_cases h_scope : a.scope = b.scope
 rotate_left
 ·have q_scope : (a.scope == b.scope) = false := by simpa using h_scope
  obtain rfl : q = false := by rw [← hq]; exact decide_eq_false (fun e => h_scope (by rw [e]))
  refine runf (an @s2 (an @s3 (an @s6 (an @q_author (an @q_seq (an @q_prev (an @q_kind (an @q_time (an @q_object (an @q_target @q_scope)))))))))) ?_
  exact er0
 have q_scope : (a.scope == b.scope) = true := by rw [h_scope]; exact beq_self_eq_true _
 by_cases h_group : a.group = b.group
 rotate_left
 ·have q_group : (a.group == b.group) = false := by simpa using h_group
  obtain rfl : q = false := by rw [← hq]; exact decide_eq_false (fun e => h_group (by rw [e]))
  refine runf (an @s2 (an @s3 (an @s6 (an @q_author (an @q_seq (an @q_prev (an @q_kind (an @q_time (an @q_object (an @q_target (an @q_scope @q_group))))))))))) ?_
  exact er0
 have q_group : (a.group == b.group) = true := by rw [h_group]; exact beq_self_eq_true _
 by_cases h_text : a.text = b.text
 rotate_left
 ·have q_text : (a.text == b.text) = false := by simpa using h_text
  obtain rfl : q = false := by rw [← hq]; exact decide_eq_false (fun e => h_text (by rw [e]))
  refine runf (an @s2 (an @s3 (an @s6 (an @q_author (an @q_seq (an @q_prev (an @q_kind (an @q_time (an @q_object (an @q_target (an @q_scope (an @q_group @q_text)))))))))))) ?_
  exact er0
 have q_text : (a.text == b.text) = true := by rw [h_text]; exact beq_self_eq_true _
 by_cases h_body_nonce : a.body.nonce = b.body.nonce
 rotate_left
 ·have q_body_nonce : (a.body.nonce == b.body.nonce) = false := by simpa using h_body_nonce
  obtain rfl : q = false := by rw [← hq]; exact decide_eq_false (fun e => h_body_nonce (by rw [e]))
  refine runf (an @s2 (an @s3 (an @s6 (an @q_author (an @q_seq (an @q_prev (an @q_kind (an @q_time (an @q_object (an @q_target (an @q_scope (an @q_group (an @q_text @q_body_nonce))))))))))))) ?_
  exact er0
 have q_body_nonce : (a.body.nonce == b.body.nonce) = true := by rw [h_body_nonce]; exact beq_self_eq_true _
 by_cases h_body_data : a.body.data = b.body.data
 rotate_left
 ·have q_body_data : (a.body.data == b.body.data) = false := by simpa using h_body_data
  obtain rfl : q = false := by rw [← hq]; exact decide_eq_false (fun e => h_body_data (by rw [e]))
  refine runf (an @s2 (an @s3 (an @s6 (an @q_author (an @q_seq (an @q_prev (an @q_kind (an @q_time (an @q_object (an @q_target (an @q_scope (an @q_group (an @q_text (an @q_body_nonce @q_body_data)))))))))))))) ?_
  exact er0
 have q_body_data : (a.body.data == b.body.data) = true := by rw [h_body_data]; exact beq_self_eq_true _
 by_cases h_body_tag : a.body.tag = b.body.tag
 rotate_left
 ·have q_body_tag : (a.body.tag == b.body.tag) = false := by simpa using h_body_tag
  obtain rfl : q = false := by rw [← hq]; exact decide_eq_false (fun e => h_body_tag (by rw [e]))
  refine runf (an @s2 (an @s3 (an @s6 (an @q_author (an @q_seq (an @q_prev (an @q_kind (an @q_time (an @q_object (an @q_target (an @q_scope (an @q_group (an @q_text (an @q_body_nonce (an @q_body_data @q_body_tag))))))))))))))) ?_
  exact er0
 have q_body_tag : (a.body.tag == b.body.tag) = true := by rw [h_body_tag]; exact beq_self_eq_true _
 by_cases h_epoch : a.epoch = b.epoch
 rotate_left
 ·have q_epoch : (a.epoch == b.epoch) = false := by simpa using h_epoch
  obtain rfl : q = false := by rw [← hq]; exact decide_eq_false (fun e => h_epoch (by rw [e]))
  refine runf (an @s2 (an @s3 (an @s6 (an @q_author (an @q_seq (an @q_prev (an @q_kind (an @q_time (an @q_object (an @q_target (an @q_scope (an @q_group (an @q_text (an @q_body_nonce (an @q_body_data (an @q_body_tag @q_epoch)))))))))))))))) ?_
  exact er0
 have q_epoch : (a.epoch == b.epoch) = true := by rw [h_epoch]; exact beq_self_eq_true _
 by_cases h_n : a.n = b.n
 rotate_left
 ·have q_n : (a.n == b.n) = false := by simpa using h_n
  obtain rfl : q = false := by rw [← hq]; exact decide_eq_false (fun e => h_n (by rw [e]))
  refine runf (an @s2 (an @s3 (an @s6 (an @q_author (an @q_seq (an @q_prev (an @q_kind (an @q_time (an @q_object (an @q_target (an @q_scope (an @q_group (an @q_text (an @q_body_nonce (an @q_body_data (an @q_body_tag (an @q_epoch @q_n))))))))))))))))) ?_
  exact er0
 have q_n : (a.n == b.n) = true := by rw [h_n]; exact beq_self_eq_true _
 by_cases h_m : a.m = b.m
 rotate_left
 ·have q_m : (a.m == b.m) = false := by simpa using h_m
  obtain rfl : q = false := by rw [← hq]; exact decide_eq_false (fun e => h_m (by rw [e]))
  refine runf (an @s2 (an @s3 (an @s6 (an @q_author (an @q_seq (an @q_prev (an @q_kind (an @q_time (an @q_object (an @q_target (an @q_scope (an @q_group (an @q_text (an @q_body_nonce (an @q_body_data (an @q_body_tag (an @q_epoch (an @q_n @q_m)))))))))))))))))) ?_
  exact er0
 have q_m : (a.m == b.m) = true := by rw [h_m]; exact beq_self_eq_true _
 by_cases h_sig_e : a.sig.e = b.sig.e
 rotate_left
 ·have q_sig_e : (a.sig.e == b.sig.e) = false := by simpa using h_sig_e
  obtain rfl : q = false := by rw [← hq]; exact decide_eq_false (fun e => h_sig_e (by rw [e]))
  refine runf (an @s2 (an @s3 (an @s6 (an @q_author (an @q_seq (an @q_prev (an @q_kind (an @q_time (an @q_object (an @q_target (an @q_scope (an @q_group (an @q_text (an @q_body_nonce (an @q_body_data (an @q_body_tag (an @q_epoch (an @q_n (an @q_m @q_sig_e))))))))))))))))))) ?_
  exact er0
 have q_sig_e : (a.sig.e == b.sig.e) = true := by rw [h_sig_e]; exact beq_self_eq_true _
 by_cases h_sig_s : a.sig.s = b.sig.s
 rotate_left
 ·have q_sig_s : (a.sig.s == b.sig.s) = false := by simpa using h_sig_s
  obtain rfl : q = false := by rw [← hq]; exact decide_eq_false (fun e => h_sig_s (by rw [e]))
  refine runf (an @s2 (an @s3 (an @s6 (an @q_author (an @q_seq (an @q_prev (an @q_kind (an @q_time (an @q_object (an @q_target (an @q_scope (an @q_group (an @q_text (an @q_body_nonce (an @q_body_data (an @q_body_tag (an @q_epoch (an @q_n (an @q_m (an @q_sig_e @q_sig_s)))))))))))))))))))) ?_
  exact er0
 have q_sig_s : (a.sig.s == b.sig.s) = true := by rw [h_sig_s]; exact beq_self_eq_true _
 obtain rfl : q = true := by
  rw [← hq]
  exact decide_eq_true (act_ext ⟨h_author, h_seq, h_prev, h_kind, h_time, h_object, h_target, h_scope, h_group, e_to, h_text, h_body_nonce, h_body_data, h_body_tag, h_epoch, e_wraps, h_n, h_m, h_sig_e, h_sig_s⟩)
 refine runf (an @s2 (an @s3 (an @s6 (an @q_author (an @q_seq (an @q_prev (an @q_kind (an @q_time (an @q_object (an @q_target (an @q_scope (an @q_group (an @q_text (an @q_body_nonce (an @q_body_data (an @q_body_tag (an @q_epoch (an @q_n (an @q_m (an @q_sig_e @q_sig_s)))))))))))))))))))) ?_
 exact er0
theorem fsameDecision_c (a b : It.Decision) (ha : a.to.length ≤ 140737488355328) (hb : b.to.length ≤ 140737488355328) : AC Tryz.prog 132 [decisionV a, decisionV b] [] (.bo (decide (a = b))) [] := by
 refine AC.enter2 [] [] Tryz.func132 rfl (by decide) (by decide) (Nat.le_of_ble_eq_true rfl) (by kernel_rfl) ?_; simp only [eraseC, eraseO, List.map_cons, List.map_nil, List.map_toArray, List.getElem?_toArray, List.getElem?_cons_zero, List.getElem?_cons_succ, Option.bind_some, Option.bind_none, List.append_eq, List.cons_append, List.nil_append]
 obtain ⟨q, hq⟩ : ∃ q, decide (a = b) = q := ⟨_, rfl⟩
 rw [hq]
 by_cases l1 : a.to.length = b.to.length
 rotate_left
 ·obtain rfl : q = false := by rw [← hq]; exact decide_eq_false (fun e => l1 (by rw [e]))
  refine run ?_
  exact er0
 refine run ?_
 refine loop_mk (fun m e S => e 2 = .ptr 0 0 ∧ e 3 = .ptr 1 0 ∧ S = [.cells (decL a), .cells (decL b)] ∧ ∃ k : Nat, e 5 = .it .i64 (k : Int) ∧ k ≤ a.to.length ∧ (∀ j (h1 : j < a.to.length) (h2 : j < b.to.length), j < k → a.to[j] = b.to[j]) ∧ m = a.to.length - k) a.to.length
  ⟨(by first | rfl | (simp only [↓upd_apply, ↓put_some, ↓reduceIte, Nat.reduceEqDiff, ↓argEnv_zero, ↓argEnv_succ, *]; done)), (by first | rfl | (simp only [↓upd_apply, ↓put_some, ↓reduceIte, Nat.reduceEqDiff, ↓argEnv_zero, ↓argEnv_succ, *]; done)), rfl, 0, (by first | rfl | (simp only [↓upd_apply, ↓put_some, ↓reduceIte, Nat.reduceEqDiff, ↓argEnv_zero, ↓argEnv_succ, *]; done)), by omega, fun j _ _ h => absurd h (Nat.not_lt_zero _), rfl⟩ ?_
 rintro m e S ⟨s2, s3, rfl, k, s5, hk, hall, rfl⟩
 by_cases hlt : k < a.to.length
 focus
  have hga : a.to[k]? = some a.to[k] := List.getElem?_eq_getElem hlt
  have hgb : b.to[k]? = some (b.to[k]'(by omega)) := List.getElem?_eq_getElem (by omega)
  have hlb : k < b.to.length := by omega
  by_cases he : a.to[k] = b.to[k]
  ·have qe : (a.to[k] == b.to[k]) = true := by rw [he]; exact beq_self_eq_true _
   refine runf (an @s2 (an @s3 (an @s5 (an @hga (an @hgb @qe))))) ?_
   exact round_mk (a.to.length - (k + 1)) (by omega) ⟨(by first | rfl | (simp only [↓upd_apply, ↓put_some, ↓reduceIte, Nat.reduceEqDiff, ↓argEnv_zero, ↓argEnv_succ, *]; done)), (by first | rfl | (simp only [↓upd_apply, ↓put_some, ↓reduceIte, Nat.reduceEqDiff, ↓argEnv_zero, ↓argEnv_succ, *]; done)), rfl, k + 1, (by first | rfl | (simp only [↓upd_apply, ↓put_some, ↓reduceIte, Nat.reduceEqDiff, ↓argEnv_zero, ↓argEnv_succ, *]; done)), by omega, (fun j h1 h2 hj => by
    by_cases ej : j = k
    ·subst ej; exact he
    ·exact hall j h1 h2 (by omega)), rfl⟩
  ·have qe : (a.to[k] == b.to[k]) = false := by simpa using he
   obtain rfl : q = false := by rw [← hq]; exact decide_eq_false (fun e => he (by subst e; rfl))
   refine runf (an @s2 (an @s3 (an @s5 (an @hga (an @hgb @qe))))) ?_
   exact er0
 have e_to : a.to = b.to := list_eq_of l1 fun j h1 h2 => hall j h1 h2 (by omega)
 by_cases h_server : a.server = b.server
 rotate_left
 ·have q_server : (a.server == b.server) = false := by simpa using h_server
  obtain rfl : q = false := by rw [← hq]; exact decide_eq_false (fun e => h_server (by rw [e]))
  refine runf (an @s2 (an @s3 (an @s5 @q_server))) ?_
  exact er0
 have q_server : (a.server == b.server) = true := by rw [h_server]; exact beq_self_eq_true _
 by_cases h_number : a.number = b.number
 rotate_left
 ·have q_number : (a.number == b.number) = false := by simpa using h_number
  obtain rfl : q = false := by rw [← hq]; exact decide_eq_false (fun e => h_number (by rw [e]))
  refine runf (an @s2 (an @s3 (an @s5 (an @q_server @q_number)))) ?_
  exact er0
 have q_number : (a.number == b.number) = true := by rw [h_number]; exact beq_self_eq_true _
 by_cases h_kind : a.kind = b.kind
 rotate_left
 ·have q_kind : (a.kind == b.kind) = false := by simpa using h_kind
  obtain rfl : q = false := by rw [← hq]; exact decide_eq_false (fun e => h_kind (by rw [e]))
  refine runf (an @s2 (an @s3 (an @s5 (an @q_server (an @q_number @q_kind))))) ?_
  exact er0
 have q_kind : (a.kind == b.kind) = true := by rw [h_kind]; exact beq_self_eq_true _
 by_cases h_actor : a.actor = b.actor
 rotate_left
 ·have q_actor : (a.actor == b.actor) = false := by simpa using h_actor
  obtain rfl : q = false := by rw [← hq]; exact decide_eq_false (fun e => h_actor (by rw [e]))
  refine runf (an @s2 (an @s3 (an @s5 (an @q_server (an @q_number (an @q_kind @q_actor)))))) ?_
  exact er0
 have q_actor : (a.actor == b.actor) = true := by rw [h_actor]; exact beq_self_eq_true _
 by_cases h_object : a.object = b.object
 rotate_left
 ·have q_object : (a.object == b.object) = false := by simpa using h_object
  obtain rfl : q = false := by rw [← hq]; exact decide_eq_false (fun e => h_object (by rw [e]))
  refine runf (an @s2 (an @s3 (an @s5 (an @q_server (an @q_number (an @q_kind (an @q_actor @q_object))))))) ?_
  exact er0
 have q_object : (a.object == b.object) = true := by rw [h_object]; exact beq_self_eq_true _
 by_cases h_text : a.text = b.text
 rotate_left
 ·have q_text : (a.text == b.text) = false := by simpa using h_text
  obtain rfl : q = false := by rw [← hq]; exact decide_eq_false (fun e => h_text (by rw [e]))
  refine runf (an @s2 (an @s3 (an @s5 (an @q_server (an @q_number (an @q_kind (an @q_actor (an @q_object @q_text)))))))) ?_
  exact er0
 have q_text : (a.text == b.text) = true := by rw [h_text]; exact beq_self_eq_true _
 by_cases h_n : a.n = b.n
 rotate_left
 ·have q_n : (a.n == b.n) = false := by simpa using h_n
  obtain rfl : q = false := by rw [← hq]; exact decide_eq_false (fun e => h_n (by rw [e]))
  refine runf (an @s2 (an @s3 (an @s5 (an @q_server (an @q_number (an @q_kind (an @q_actor (an @q_object (an @q_text @q_n))))))))) ?_
  exact er0
 have q_n : (a.n == b.n) = true := by rw [h_n]; exact beq_self_eq_true _
 by_cases h_frm : a.frm = b.frm
 rotate_left
 ·have q_frm : (a.frm == b.frm) = false := by simpa using h_frm
  obtain rfl : q = false := by rw [← hq]; exact decide_eq_false (fun e => h_frm (by rw [e]))
  refine runf (an @s2 (an @s3 (an @s5 (an @q_server (an @q_number (an @q_kind (an @q_actor (an @q_object (an @q_text (an @q_n @q_frm)))))))))) ?_
  exact er0
 have q_frm : (a.frm == b.frm) = true := by rw [h_frm]; exact beq_self_eq_true _
 by_cases h_til : a.til = b.til
 rotate_left
 ·have q_til : (a.til == b.til) = false := by simpa using h_til
  obtain rfl : q = false := by rw [← hq]; exact decide_eq_false (fun e => h_til (by rw [e]))
  refine runf (an @s2 (an @s3 (an @s5 (an @q_server (an @q_number (an @q_kind (an @q_actor (an @q_object (an @q_text (an @q_n (an @q_frm @q_til))))))))))) ?_
  exact er0
 have q_til : (a.til == b.til) = true := by rw [h_til]; exact beq_self_eq_true _
 by_cases h_sig_e : a.sig.e = b.sig.e
 rotate_left
 ·have q_sig_e : (a.sig.e == b.sig.e) = false := by simpa using h_sig_e
  obtain rfl : q = false := by rw [← hq]; exact decide_eq_false (fun e => h_sig_e (by rw [e]))
  refine runf (an @s2 (an @s3 (an @s5 (an @q_server (an @q_number (an @q_kind (an @q_actor (an @q_object (an @q_text (an @q_n (an @q_frm (an @q_til @q_sig_e)))))))))))) ?_
  exact er0
 have q_sig_e : (a.sig.e == b.sig.e) = true := by rw [h_sig_e]; exact beq_self_eq_true _
 by_cases h_sig_s : a.sig.s = b.sig.s
 rotate_left
 ·have q_sig_s : (a.sig.s == b.sig.s) = false := by simpa using h_sig_s
  obtain rfl : q = false := by rw [← hq]; exact decide_eq_false (fun e => h_sig_s (by rw [e]))
  refine runf (an @s2 (an @s3 (an @s5 (an @q_server (an @q_number (an @q_kind (an @q_actor (an @q_object (an @q_text (an @q_n (an @q_frm (an @q_til (an @q_sig_e @q_sig_s))))))))))))) ?_
  exact er0
 have q_sig_s : (a.sig.s == b.sig.s) = true := by rw [h_sig_s]; exact beq_self_eq_true _
 obtain rfl : q = true := by
  rw [← hq]
  refine decide_eq_true ?_
  cases a; cases b
  rename_i x1 x2 x3 x4 x5 x6 x7 x8 x9 x10 x11 y1 y2 y3 y4 y5 y6 y7 y8 y9 y10 y11
  cases x11; cases y11
  simp only at *
  simp only [*]
 refine runf (an @s2 (an @s3 (an @s5 (an @q_server (an @q_number (an @q_kind (an @q_actor (an @q_object (an @q_text (an @q_n (an @q_frm (an @q_til (an @q_sig_e @q_sig_s))))))))))))) ?_
 exact er0
theorem fsame13_c (a b : It.Item) (ha : Lz a) (hb : Lz b) : AC Tryz.prog 34 [itemV a, itemV b] [] (.bo (decide (a = b))) [] := by
 refine AC.enter2 [16, 132] [] Tryz.func34 rfl (by decide) (by decide) (Nat.le_of_ble_eq_true rfl) (by kernel_rfl) ?_; simp only [eraseC, eraseO, List.map_cons, List.map_nil, List.map_toArray, List.getElem?_toArray, List.getElem?_cons_zero, List.getElem?_cons_succ, Option.bind_some, Option.bind_none, List.append_eq, List.cons_append, List.nil_append]
 obtain ⟨q, hq⟩ : ∃ q, decide (a = b) = q := ⟨_, rfl⟩
 rw [hq]
 have k1 := fsame12_c a.act b.act ⟨ha.to, ha.wraps⟩ ⟨hb.to, hb.wraps⟩
 have k2 := fsameDecision_c a.decision b.decision ha.dto hb.dto
 have qc := claim_eq a.claim b.claim
 have qb := ballot_eq a.ballot b.ballot
 by_cases h1 : a.act = b.act
 rotate_left
 ·obtain rfl : q = false := by rw [← hq]; exact decide_eq_false (fun e => h1 (by rw [e]))
  rw [decide_eq_false h1] at k1
  refine run ?_
  refine cp k1 ?_
  refine run ?_
  exact er0
 rw [decide_eq_true h1] at k1
 by_cases h2 : a.kind = b.kind
 rotate_left
 ·obtain rfl : q = false := by rw [← hq]; exact decide_eq_false (fun e => h2 (by rw [e]))
  have q2 : (a.kind == b.kind) = false := beqF h2
  refine run ?_
  refine cp k1 ?_
  refine runf @q2 ?_
  exact er0
 have q2 : (a.kind == b.kind) = true := by rw [h2]; exact beq_self_eq_true _
 by_cases h3 : a.claim = b.claim
 rotate_left
 ·obtain rfl : q = false := by rw [← hq]; exact decide_eq_false (fun e => h3 (by rw [e]))
  rw [decide_eq_false h3] at qc
  refine run ?_
  refine cp k1 ?_
  refine runf (an @q2 @qc) ?_
  exact er0
 rw [decide_eq_true h3] at qc
 by_cases h4 : a.ballot = b.ballot
 rotate_left
 ·obtain rfl : q = false := by rw [← hq]; exact decide_eq_false (fun e => h4 (by rw [e]))
  rw [decide_eq_false h4] at qb
  refine run ?_
  refine cp k1 ?_
  refine runf (an @q2 (an @qc @qb)) ?_
  exact er0
 rw [decide_eq_true h4] at qb
 have e5 : decide (a.decision = b.decision) = q := by
  rw [← hq, Bool.eq_iff_iff, decide_eq_true_eq, decide_eq_true_eq]
  constructor
  ·intro h5
   cases a; cases b
   simp only at *
   simp only [*]
  ·intro e; rw [e]
 rw [e5] at k2
 refine run ?_
 refine cp k1 ?_
 refine runf (an @q2 (an @qc @qb)) ?_
 refine cp k2 ?_
 refine run ?_
 exact er0
theorem fsameEntry_c (a b : It.Entry) (ha : Lz a.item) (hb : Lz b.item) : AC Tryz.prog 35 [entryV a, entryV b] [] (.bo (decide (a = b))) [] := by
 refine AC.enter2 [34] [] Tryz.func35 rfl (by decide) (by decide) (Nat.le_of_ble_eq_true rfl) (by kernel_rfl) ?_; simp only [eraseC, eraseO, List.map_cons, List.map_nil, List.map_toArray, List.getElem?_toArray, List.getElem?_cons_zero, List.getElem?_cons_succ, Option.bind_some, Option.bind_none, List.append_eq, List.cons_append, List.nil_append]
 have k := fsame13_c a.item b.item ha hb
 by_cases h1 : a.time = b.time
 ·have q1 : (a.time == b.time) = true := by rw [h1]; exact beq_self_eq_true _
  have e : decide (a.item = b.item) = decide (a = b) := by
   rw [Bool.eq_iff_iff, decide_eq_true_eq, decide_eq_true_eq]
   constructor
   ·intro h5
    cases a; cases b
    simp only at *
    simp only [*]
   ·intro e; rw [e]
  rw [e] at k
  refine runf @q1 ?_
  refine cp k ?_
  refine run ?_
  exact er0
 ·have q1 : (a.time == b.time) = false := beqF h1
  rw [decide_eq_false (fun e => h1 (by rw [e]))]
  refine runf @q1 ?_
  exact er0
end Go.Proofs.YtaphpbiaoofmkaaGreatDoor.Pe
end
section
namespace Go.Proofs.YtaphpbiaoofmkaaGreatDoor.Pe
open Go Go.RowKit Co Sg Ac It
set_option maxRecDepth 100000
set_option maxHeartbeats 4000000
theorem ffrom_c (n lo hi : Int) : AC Tryz.prog 151 [.it .i64 n, .it .i64 lo, .it .i64 hi] [] (.bo (wi n lo hi)) [] := by
 refine AC.enter2 [] [] Tryz.func151 rfl (by decide) (by decide) (Nat.le_of_ble_eq_true rfl) (by kernel_rfl) ?_; simp only [eraseC, eraseO, List.map_cons, List.map_nil, List.map_toArray, List.getElem?_toArray, List.getElem?_cons_zero, List.getElem?_cons_succ, Option.bind_some, Option.bind_none, List.append_eq, List.cons_append, List.nil_append]
 unfold wi
 by_cases h : lo ≤ n
 ·rw [decide_eq_true h]
  refine run ?_
  exact er0
 ·rw [decide_eq_false h]
  refine run ?_
  exact er0
theorem fsig_c (s : Sig) : AC Tryz.prog 242 [sigV s] [] (.bo (sigR s)) [] := by
 refine AC.enter2 [151] [] Tryz.func242 rfl (by decide) (by decide) (Nat.le_of_ble_eq_true rfl) (by kernel_rfl) ?_; simp only [eraseC, eraseO, List.map_cons, List.map_nil, List.map_toArray, List.getElem?_toArray, List.getElem?_cons_zero, List.getElem?_cons_succ, Option.bind_some, Option.bind_none, List.append_eq, List.cons_append, List.nil_append]
 unfold sigR
 refine run ?_
 refine cp (ffrom_c s.e 0 2305843009213693949) ?_
 cases h : wi s.e 0 2305843009213693949 with
 | false =>
  refine run ?_
  exact er0
 | true =>
  refine run ?_
  refine cp (ffrom_c s.s 0 2305843009213693949) ?_
  refine run ?_
  exact er0
theorem fclaimed13_c (c : It.Claim) (ha : c.actor.length ≤ 140737488355328) : AC Tryz.prog 136 [claimV c] [] (.bo (rightClaim c)) [] := by
 refine AC.enter2 [113, 151, 242] [] Tryz.func136 rfl (by decide) (by decide) (Nat.le_of_ble_eq_true rfl) (by kernel_rfl) ?_; simp only [eraseC, eraseO, List.map_cons, List.map_nil, List.map_toArray, List.getElem?_toArray, List.getElem?_cons_zero, List.getElem?_cons_succ, Option.bind_some, Option.bind_none, List.append_eq, List.cons_append, List.nil_append]
 obtain ⟨q, hq⟩ : ∃ q, rightClaim c = q := ⟨_, rfl⟩
 rw [hq]
 unfold rightClaim at hq
 refine run ?_
 refine cp (fidright_c c.actor ha) ?_
 cases c0 : idR c.actor with
 | false =>
  obtain rfl : q = false := by rw [← hq, c0]; simp
  refine run ?_
  refine cp (ffrom_c c.base 1 1073741824) ?_
  cases n0 : wi c.base 1 1073741824 with
  | false =>
   refine run ?_
   exact er0
  | true =>
  refine run ?_
  refine cp (ffrom_c c.gen 0 1073741824) ?_
  cases n1 : wi c.gen 0 1073741824 with
  | false =>
   refine run ?_
   exact er0
  | true =>
  refine run ?_
  refine cp (ffrom_c c.home 0 19) ?_
  cases n2 : wi c.home 0 19 with
  | false =>
   refine run ?_
   exact er0
  | true =>
  refine run ?_
  refine cp (ffrom_c c.pub 1 2305843009213693950) ?_
  cases n3 : wi c.pub 1 2305843009213693950 with
  | false =>
   refine run ?_
   exact er0
  | true =>
  refine run ?_
  refine cp (ffrom_c c.time 0 1099511627776) ?_
  cases n4 : wi c.time 0 1099511627776 with
  | false =>
   refine run ?_
   exact er0
  | true =>
  refine run ?_
  exact er0
 | true =>
  refine run ?_
  refine cp (ffrom_c c.base 1 1073741824) ?_
  cases n0 : wi c.base 1 1073741824 with
  | false =>
   obtain rfl : q = false := by rw [← hq]; simp [n0, isServer, isTime]
   refine run ?_
   exact er0
  | true =>
  refine run ?_
  refine cp (ffrom_c c.gen 0 1073741824) ?_
  cases n1 : wi c.gen 0 1073741824 with
  | false =>
   obtain rfl : q = false := by rw [← hq]; simp [n1, isServer, isTime]
   refine run ?_
   exact er0
  | true =>
  refine run ?_
  refine cp (ffrom_c c.home 0 19) ?_
  cases n2 : wi c.home 0 19 with
  | false =>
   obtain rfl : q = false := by rw [← hq]; simp [n2, isServer, isTime]
   refine run ?_
   exact er0
  | true =>
  refine run ?_
  refine cp (ffrom_c c.pub 1 2305843009213693950) ?_
  cases n3 : wi c.pub 1 2305843009213693950 with
  | false =>
   obtain rfl : q = false := by rw [← hq]; simp [n3, isServer, isTime]
   refine run ?_
   exact er0
  | true =>
  refine run ?_
  refine cp (ffrom_c c.time 0 1099511627776) ?_
  cases n4 : wi c.time 0 1099511627776 with
  | false =>
   obtain rfl : q = false := by rw [← hq]; simp [n4, isServer, isTime]
   refine run ?_
   exact er0
  | true =>
  have hd := dig_eq c.prev
  cases cd : ((c.prev.length : Int) == 32) with
  | false =>
   obtain rfl : q = false := by rw [← hq, hd, cd]; simp
   refine runf @cd ?_
   exact er0
  | true =>
  obtain rfl : q = sigR c.sig := by rw [← hq, hd, cd]; simp [c0, n0, n1, n2, n3, n4, isServer, isTime]
  refine runf @cd ?_
  refine cp (fsig_c c.sig) ?_
  refine run ?_
  exact er0
theorem fvoted_c (c : It.Ballot) (ha : c.actor.length ≤ 140737488355328) : AC Tryz.prog 137 [ballotV c] [] (.bo (rightBallot c)) [] := by
 refine AC.enter2 [113, 151, 242] [] Tryz.func137 rfl (by decide) (by decide) (Nat.le_of_ble_eq_true rfl) (by kernel_rfl) ?_; simp only [eraseC, eraseO, List.map_cons, List.map_nil, List.map_toArray, List.getElem?_toArray, List.getElem?_cons_zero, List.getElem?_cons_succ, Option.bind_some, Option.bind_none, List.append_eq, List.cons_append, List.nil_append]
 obtain ⟨q, hq⟩ : ∃ q, rightBallot c = q := ⟨_, rfl⟩
 rw [hq]
 unfold rightBallot at hq
 refine run ?_
 refine cp (fidright_c c.actor ha) ?_
 cases c0 : idR c.actor with
 | false =>
  obtain rfl : q = false := by rw [← hq, c0]; simp
  refine run ?_
  refine cp (ffrom_c c.server 0 19) ?_
  cases n0 : wi c.server 0 19 with
  | false =>
   refine run ?_
   exact er0
  | true =>
  refine run ?_
  refine cp (ffrom_c c.gen 0 1073741824) ?_
  cases n1 : wi c.gen 0 1073741824 with
  | false =>
   refine run ?_
   exact er0
  | true =>
  refine run ?_
  refine cp (ffrom_c c.time 0 1099511627776) ?_
  cases n2 : wi c.time 0 1099511627776 with
  | false =>
   refine run ?_
   exact er0
  | true =>
  refine run ?_
  exact er0
 | true =>
  refine run ?_
  refine cp (ffrom_c c.server 0 19) ?_
  cases n0 : wi c.server 0 19 with
  | false =>
   obtain rfl : q = false := by rw [← hq]; simp [n0, isServer, isTime]
   refine run ?_
   exact er0
  | true =>
  refine run ?_
  refine cp (ffrom_c c.gen 0 1073741824) ?_
  cases n1 : wi c.gen 0 1073741824 with
  | false =>
   obtain rfl : q = false := by rw [← hq]; simp [n1, isServer, isTime]
   refine run ?_
   exact er0
  | true =>
  refine run ?_
  refine cp (ffrom_c c.time 0 1099511627776) ?_
  cases n2 : wi c.time 0 1099511627776 with
  | false =>
   obtain rfl : q = false := by rw [← hq]; simp [n2, isServer, isTime]
   refine run ?_
   exact er0
  | true =>
  have hd := dig_eq c.claim
  cases cd : ((c.claim.length : Int) == 32) with
  | false =>
   obtain rfl : q = false := by rw [← hq, hd, cd]; simp
   refine runf @cd ?_
   exact er0
  | true =>
  obtain rfl : q = sigR c.sig := by rw [← hq, hd, cd]; simp [c0, n0, n1, n2, isServer, isTime]
  refine runf @cd ?_
  refine cp (fsig_c c.sig) ?_
  refine run ?_
  exact er0
theorem terms_kind (d : It.Decision) (h : wi d.kind 0 9 = false) : rightTerms d = false := by
 unfold rightTerms
 have : ¬ (0 ≤ d.kind ∧ d.kind ≤ 9) := fun e => by rw [wi_iff.2 e] at h; cases h
 rw [if_neg (by omega), if_neg (by omega), if_neg (by omega), if_neg (by omega)]
theorem fdecided_c (d : It.Decision) (ha : d.actor.length ≤ 140737488355328) (hts : ∀ s ∈ d.to, s.length ≤ 140737488355328) (htl : d.to.length ≤ 140737488355328) : AC Tryz.prog 138 [decisionV d] [] (.bo (rightDecision d)) [] := by
 refine AC.enter2 [113, 231, 151, 242] [] Tryz.func138 rfl (by decide) (by decide) (Nat.le_of_ble_eq_true rfl) (by kernel_rfl) ?_; simp only [eraseC, eraseO, List.map_cons, List.map_nil, List.map_toArray, List.getElem?_toArray, List.getElem?_cons_zero, List.getElem?_cons_succ, Option.bind_some, Option.bind_none, List.append_eq, List.cons_append, List.nil_append]
 obtain ⟨q, hq⟩ : ∃ q, rightDecision d = q := ⟨_, rfl⟩
 rw [hq]
 unfold rightDecision at hq
 have hn := nilD
 have hl := lenD d.to
 have hs := short_eq d.text
 refine run ?_
 refine cp (ffrom_c d.server 0 19) ?_
 cases n0 : wi d.server 0 19 with
 | false =>
  obtain rfl : q = false := by rw [← hq]; simp [n0, isServer, isTime]
  refine run ?_
  exact er0
 | true =>
 refine run ?_
 refine cp (ffrom_c d.number 0 1073741824) ?_
 cases n1 : wi d.number 0 1073741824 with
 | false =>
  obtain rfl : q = false := by rw [← hq]; simp [n1, isServer, isTime]
  refine run ?_
  exact er0
 | true =>
 refine run ?_
 refine cp (ffrom_c d.kind 0 9) ?_
 cases n2 : wi d.kind 0 9 with
 | false =>
  obtain rfl : q = false := by rw [← hq]; simp [terms_kind d n2]
  refine run ?_
  exact er0
 | true =>
 refine run ?_
 refine cp (ffrom_c d.frm 0 1099511627776) ?_
 cases n3 : wi d.frm 0 1099511627776 with
 | false =>
  obtain rfl : q = false := by rw [← hq]; simp [n3, isServer, isTime]
  refine run ?_
  exact er0
 | true =>
 refine run ?_
 refine cp (ffrom_c d.til 0 1099511627776) ?_
 cases n4 : wi d.til 0 1099511627776 with
 | false =>
  obtain rfl : q = false := by rw [← hq]; simp [n4, isServer, isTime]
  refine run ?_
  exact er0
 | true =>
 by_cases hft : d.frm < d.til
 rotate_left
 ·obtain rfl : q = false := by rw [← hq, decide_eq_false hft]; simp
  refine run ?_
  exact er0
 refine run ?_
 refine cp (fsig_c d.sig) ?_
 cases cs : sigR d.sig with
 | false =>
  obtain rfl : q = false := by rw [← hq, cs]; simp
  refine run ?_
  exact er0
 | true =>
 have hk := wi_iff.1 n2
 obtain rfl : q = rightTerms d := by rw [← hq, cs, decide_eq_true hft]; simp [n0, n1, n3, n4, isServer, isTime]
 clear hq
 obtain ⟨pl, hpl⟩ : ∃ pl, plainD d = pl := ⟨_, rfl⟩
 have hks : d.kind = 0 ∨ d.kind = 1 ∨ d.kind = 2 ∨ d.kind = 3 ∨ d.kind = 4 ∨ d.kind = 5 ∨ d.kind = 6 ∨ d.kind = 7 ∨ d.kind = 8 ∨ d.kind = 9 := by omega
 rcases hks with hk | hk | hk | hk | hk | hk | hk | hk | hk | hk
 ·have hv : rightTerms d = (idR d.actor && decide (d.object = []) && decide ((d.text.length : Int) ≤ 500) && plainD d) := by
   unfold rightTerms
   rw [if_pos (by omega), hs]
  rw [hv]
  cases ct : decide (d.to = []) with
  | false =>
   have hp : plainD d = false := by unfold plainD; rw [ct]; rfl
   rw [hp]
   refine runf (an @hn (an @hl @ct)) ?_
   refine cp (fidright_c d.actor ha) ?_
   cases c0 : idR d.actor with
   | false =>
    refine runf (an @hn (an @hl @ct)) ?_
    exact er0
   | true =>
   cases c1 : decide (d.object = []) with
   | false =>
    refine runf (an @hn (an @hl (an @ct @c1))) ?_
    exact er0
   | true =>
   cases c2 : decide ((d.text.length : Int) ≤ 500) with
   | false =>
    refine runf (an @hn (an @hl (an @c1 (an @ct @c2)))) ?_
    exact er0
   | true =>
   refine runf (an @hn (an @hl (an @c1 (an @c2 @ct)))) ?_
   exact er0
  | true =>
  by_cases hN : d.n = 0
  ·have hp : plainD d = true := by unfold plainD; rw [ct, decide_eq_true hN]; rfl
   rw [hp]
   refine runf (an @hn (an @hl @ct)) ?_
   refine cp (fidright_c d.actor ha) ?_
   cases c0 : idR d.actor with
   | false =>
    refine runf (an @hn (an @hl @ct)) ?_
    exact er0
   | true =>
   cases c1 : decide (d.object = []) with
   | false =>
    refine runf (an @hn (an @hl (an @ct @c1))) ?_
    exact er0
   | true =>
   cases c2 : decide ((d.text.length : Int) ≤ 500) with
   | false =>
    refine runf (an @hn (an @hl (an @c1 (an @ct @c2)))) ?_
    exact er0
   | true =>
   refine runf (an @hn (an @hl (an @c1 (an @c2 @ct)))) ?_
   exact er0
  ·have hp : plainD d = false := by unfold plainD; rw [decide_eq_false hN, Bool.and_false]
   rw [hp]
   refine runf (an @hn (an @hl @ct)) ?_
   refine cp (fidright_c d.actor ha) ?_
   cases c0 : idR d.actor with
   | false =>
    refine runf (an @hn (an @hl @ct)) ?_
    exact er0
   | true =>
   cases c1 : decide (d.object = []) with
   | false =>
    refine runf (an @hn (an @hl (an @ct @c1))) ?_
    exact er0
   | true =>
   cases c2 : decide ((d.text.length : Int) ≤ 500) with
   | false =>
    refine runf (an @hn (an @hl (an @c1 (an @ct @c2)))) ?_
    exact er0
   | true =>
   refine runf (an @hn (an @hl (an @c1 (an @c2 @ct)))) ?_
   exact er0
 ·have hv : rightTerms d = (idR d.actor && decide (d.object = []) && decide ((d.text.length : Int) ≤ 500) && plainD d) := by
   unfold rightTerms
   rw [if_pos (by omega), hs]
  rw [hv]
  cases ct : decide (d.to = []) with
  | false =>
   have hp : plainD d = false := by unfold plainD; rw [ct]; rfl
   rw [hp]
   refine runf (an @hn (an @hl @ct)) ?_
   refine cp (fidright_c d.actor ha) ?_
   cases c0 : idR d.actor with
   | false =>
    refine runf (an @hn (an @hl @ct)) ?_
    exact er0
   | true =>
   cases c1 : decide (d.object = []) with
   | false =>
    refine runf (an @hn (an @hl (an @ct @c1))) ?_
    exact er0
   | true =>
   cases c2 : decide ((d.text.length : Int) ≤ 500) with
   | false =>
    refine runf (an @hn (an @hl (an @c1 (an @ct @c2)))) ?_
    exact er0
   | true =>
   refine runf (an @hn (an @hl (an @c1 (an @c2 @ct)))) ?_
   exact er0
  | true =>
  by_cases hN : d.n = 0
  ·have hp : plainD d = true := by unfold plainD; rw [ct, decide_eq_true hN]; rfl
   rw [hp]
   refine runf (an @hn (an @hl @ct)) ?_
   refine cp (fidright_c d.actor ha) ?_
   cases c0 : idR d.actor with
   | false =>
    refine runf (an @hn (an @hl @ct)) ?_
    exact er0
   | true =>
   cases c1 : decide (d.object = []) with
   | false =>
    refine runf (an @hn (an @hl (an @ct @c1))) ?_
    exact er0
   | true =>
   cases c2 : decide ((d.text.length : Int) ≤ 500) with
   | false =>
    refine runf (an @hn (an @hl (an @c1 (an @ct @c2)))) ?_
    exact er0
   | true =>
   refine runf (an @hn (an @hl (an @c1 (an @c2 @ct)))) ?_
   exact er0
  ·have hp : plainD d = false := by unfold plainD; rw [decide_eq_false hN, Bool.and_false]
   rw [hp]
   refine runf (an @hn (an @hl @ct)) ?_
   refine cp (fidright_c d.actor ha) ?_
   cases c0 : idR d.actor with
   | false =>
    refine runf (an @hn (an @hl @ct)) ?_
    exact er0
   | true =>
   cases c1 : decide (d.object = []) with
   | false =>
    refine runf (an @hn (an @hl (an @ct @c1))) ?_
    exact er0
   | true =>
   cases c2 : decide ((d.text.length : Int) ≤ 500) with
   | false =>
    refine runf (an @hn (an @hl (an @c1 (an @ct @c2)))) ?_
    exact er0
   | true =>
   refine runf (an @hn (an @hl (an @c1 (an @c2 @ct)))) ?_
   exact er0
 ·have hv : rightTerms d = (decide (d.actor = []) && dig d.object && decide ((d.text.length : Int) ≤ 500) && plainD d) := by
   unfold rightTerms
   rw [if_neg (by omega), if_pos (by omega), hs]
  rw [hv]
  cases ct : decide (d.to = []) with
  | false =>
   have hp : plainD d = false := by unfold plainD; rw [ct]; rfl
   rw [hp]
   cases c0 : decide (d.actor = []) with
   | false =>
    refine runf (an @hn (an @hl (an @ct @c0))) ?_
    exact er0
   | true =>
   rw [dig_eq]
   cases c1 : ((d.object.length : Int) == 32) with
   | false =>
    refine runf (an @hn (an @hl (an @c0 (an @ct @c1)))) ?_
    exact er0
   | true =>
   cases c2 : decide ((d.text.length : Int) ≤ 500) with
   | false =>
    refine runf (an @hn (an @hl (an @c0 (an @c1 (an @ct @c2))))) ?_
    exact er0
   | true =>
   refine runf (an @hn (an @hl (an @c0 (an @c1 (an @c2 @ct))))) ?_
   exact er0
  | true =>
  by_cases hN : d.n = 0
  ·have hp : plainD d = true := by unfold plainD; rw [ct, decide_eq_true hN]; rfl
   rw [hp]
   cases c0 : decide (d.actor = []) with
   | false =>
    refine runf (an @hn (an @hl (an @ct @c0))) ?_
    exact er0
   | true =>
   rw [dig_eq]
   cases c1 : ((d.object.length : Int) == 32) with
   | false =>
    refine runf (an @hn (an @hl (an @c0 (an @ct @c1)))) ?_
    exact er0
   | true =>
   cases c2 : decide ((d.text.length : Int) ≤ 500) with
   | false =>
    refine runf (an @hn (an @hl (an @c0 (an @c1 (an @ct @c2))))) ?_
    exact er0
   | true =>
   refine runf (an @hn (an @hl (an @c0 (an @c1 (an @c2 @ct))))) ?_
   exact er0
  ·have hp : plainD d = false := by unfold plainD; rw [decide_eq_false hN, Bool.and_false]
   rw [hp]
   cases c0 : decide (d.actor = []) with
   | false =>
    refine runf (an @hn (an @hl (an @ct @c0))) ?_
    exact er0
   | true =>
   rw [dig_eq]
   cases c1 : ((d.object.length : Int) == 32) with
   | false =>
    refine runf (an @hn (an @hl (an @c0 (an @ct @c1)))) ?_
    exact er0
   | true =>
   cases c2 : decide ((d.text.length : Int) ≤ 500) with
   | false =>
    refine runf (an @hn (an @hl (an @c0 (an @c1 (an @ct @c2))))) ?_
    exact er0
   | true =>
   refine runf (an @hn (an @hl (an @c0 (an @c1 (an @c2 @ct))))) ?_
   exact er0
 ·have hv : rightTerms d = (decide (d.actor = []) && dig d.object && decide ((d.text.length : Int) ≤ 500) && plainD d) := by
   unfold rightTerms
   rw [if_neg (by omega), if_pos (by omega), hs]
  rw [hv]
  cases ct : decide (d.to = []) with
  | false =>
   have hp : plainD d = false := by unfold plainD; rw [ct]; rfl
   rw [hp]
   cases c0 : decide (d.actor = []) with
   | false =>
    refine runf (an @hn (an @hl (an @ct @c0))) ?_
    exact er0
   | true =>
   rw [dig_eq]
   cases c1 : ((d.object.length : Int) == 32) with
   | false =>
    refine runf (an @hn (an @hl (an @c0 (an @ct @c1)))) ?_
    exact er0
   | true =>
   cases c2 : decide ((d.text.length : Int) ≤ 500) with
   | false =>
    refine runf (an @hn (an @hl (an @c0 (an @c1 (an @ct @c2))))) ?_
    exact er0
   | true =>
   refine runf (an @hn (an @hl (an @c0 (an @c1 (an @c2 @ct))))) ?_
   exact er0
  | true =>
  by_cases hN : d.n = 0
  ·have hp : plainD d = true := by unfold plainD; rw [ct, decide_eq_true hN]; rfl
   rw [hp]
   cases c0 : decide (d.actor = []) with
   | false =>
    refine runf (an @hn (an @hl (an @ct @c0))) ?_
    exact er0
   | true =>
   rw [dig_eq]
   cases c1 : ((d.object.length : Int) == 32) with
   | false =>
    refine runf (an @hn (an @hl (an @c0 (an @ct @c1)))) ?_
    exact er0
   | true =>
   cases c2 : decide ((d.text.length : Int) ≤ 500) with
   | false =>
    refine runf (an @hn (an @hl (an @c0 (an @c1 (an @ct @c2))))) ?_
    exact er0
   | true =>
   refine runf (an @hn (an @hl (an @c0 (an @c1 (an @c2 @ct))))) ?_
   exact er0
  ·have hp : plainD d = false := by unfold plainD; rw [decide_eq_false hN, Bool.and_false]
   rw [hp]
   cases c0 : decide (d.actor = []) with
   | false =>
    refine runf (an @hn (an @hl (an @ct @c0))) ?_
    exact er0
   | true =>
   rw [dig_eq]
   cases c1 : ((d.object.length : Int) == 32) with
   | false =>
    refine runf (an @hn (an @hl (an @c0 (an @ct @c1)))) ?_
    exact er0
   | true =>
   cases c2 : decide ((d.text.length : Int) ≤ 500) with
   | false =>
    refine runf (an @hn (an @hl (an @c0 (an @c1 (an @ct @c2))))) ?_
    exact er0
   | true =>
   refine runf (an @hn (an @hl (an @c0 (an @c1 (an @c2 @ct))))) ?_
   exact er0
 ·have hv : rightTerms d = (idR d.actor && decide (d.object = []) && decide ((d.text.length : Int) ≤ 500) && plainD d) := by
   unfold rightTerms
   rw [if_pos (by omega), hs]
  rw [hv]
  cases ct : decide (d.to = []) with
  | false =>
   have hp : plainD d = false := by unfold plainD; rw [ct]; rfl
   rw [hp]
   refine runf (an @hn (an @hl @ct)) ?_
   refine cp (fidright_c d.actor ha) ?_
   cases c0 : idR d.actor with
   | false =>
    refine runf (an @hn (an @hl @ct)) ?_
    exact er0
   | true =>
   cases c1 : decide (d.object = []) with
   | false =>
    refine runf (an @hn (an @hl (an @ct @c1))) ?_
    exact er0
   | true =>
   cases c2 : decide ((d.text.length : Int) ≤ 500) with
   | false =>
    refine runf (an @hn (an @hl (an @c1 (an @ct @c2)))) ?_
    exact er0
   | true =>
   refine runf (an @hn (an @hl (an @c1 (an @c2 @ct)))) ?_
   exact er0
  | true =>
  by_cases hN : d.n = 0
  ·have hp : plainD d = true := by unfold plainD; rw [ct, decide_eq_true hN]; rfl
   rw [hp]
   refine runf (an @hn (an @hl @ct)) ?_
   refine cp (fidright_c d.actor ha) ?_
   cases c0 : idR d.actor with
   | false =>
    refine runf (an @hn (an @hl @ct)) ?_
    exact er0
   | true =>
   cases c1 : decide (d.object = []) with
   | false =>
    refine runf (an @hn (an @hl (an @ct @c1))) ?_
    exact er0
   | true =>
   cases c2 : decide ((d.text.length : Int) ≤ 500) with
   | false =>
    refine runf (an @hn (an @hl (an @c1 (an @ct @c2)))) ?_
    exact er0
   | true =>
   refine runf (an @hn (an @hl (an @c1 (an @c2 @ct)))) ?_
   exact er0
  ·have hp : plainD d = false := by unfold plainD; rw [decide_eq_false hN, Bool.and_false]
   rw [hp]
   refine runf (an @hn (an @hl @ct)) ?_
   refine cp (fidright_c d.actor ha) ?_
   cases c0 : idR d.actor with
   | false =>
    refine runf (an @hn (an @hl @ct)) ?_
    exact er0
   | true =>
   cases c1 : decide (d.object = []) with
   | false =>
    refine runf (an @hn (an @hl (an @ct @c1))) ?_
    exact er0
   | true =>
   cases c2 : decide ((d.text.length : Int) ≤ 500) with
   | false =>
    refine runf (an @hn (an @hl (an @c1 (an @ct @c2)))) ?_
    exact er0
   | true =>
   refine runf (an @hn (an @hl (an @c1 (an @c2 @ct)))) ?_
   exact er0
 ·have hv : rightTerms d = (decide (d.actor = []) && dig d.object && decide ((d.text.length : Int) ≤ 500) && plainD d) := by
   unfold rightTerms
   rw [if_neg (by omega), if_pos (by omega), hs]
  rw [hv]
  cases ct : decide (d.to = []) with
  | false =>
   have hp : plainD d = false := by unfold plainD; rw [ct]; rfl
   rw [hp]
   cases c0 : decide (d.actor = []) with
   | false =>
    refine runf (an @hn (an @hl (an @ct @c0))) ?_
    exact er0
   | true =>
   rw [dig_eq]
   cases c1 : ((d.object.length : Int) == 32) with
   | false =>
    refine runf (an @hn (an @hl (an @c0 (an @ct @c1)))) ?_
    exact er0
   | true =>
   cases c2 : decide ((d.text.length : Int) ≤ 500) with
   | false =>
    refine runf (an @hn (an @hl (an @c0 (an @c1 (an @ct @c2))))) ?_
    exact er0
   | true =>
   refine runf (an @hn (an @hl (an @c0 (an @c1 (an @c2 @ct))))) ?_
   exact er0
  | true =>
  by_cases hN : d.n = 0
  ·have hp : plainD d = true := by unfold plainD; rw [ct, decide_eq_true hN]; rfl
   rw [hp]
   cases c0 : decide (d.actor = []) with
   | false =>
    refine runf (an @hn (an @hl (an @ct @c0))) ?_
    exact er0
   | true =>
   rw [dig_eq]
   cases c1 : ((d.object.length : Int) == 32) with
   | false =>
    refine runf (an @hn (an @hl (an @c0 (an @ct @c1)))) ?_
    exact er0
   | true =>
   cases c2 : decide ((d.text.length : Int) ≤ 500) with
   | false =>
    refine runf (an @hn (an @hl (an @c0 (an @c1 (an @ct @c2))))) ?_
    exact er0
   | true =>
   refine runf (an @hn (an @hl (an @c0 (an @c1 (an @c2 @ct))))) ?_
   exact er0
  ·have hp : plainD d = false := by unfold plainD; rw [decide_eq_false hN, Bool.and_false]
   rw [hp]
   cases c0 : decide (d.actor = []) with
   | false =>
    refine runf (an @hn (an @hl (an @ct @c0))) ?_
    exact er0
   | true =>
   rw [dig_eq]
   cases c1 : ((d.object.length : Int) == 32) with
   | false =>
    refine runf (an @hn (an @hl (an @c0 (an @ct @c1)))) ?_
    exact er0
   | true =>
   cases c2 : decide ((d.text.length : Int) ≤ 500) with
   | false =>
    refine runf (an @hn (an @hl (an @c0 (an @c1 (an @ct @c2))))) ?_
    exact er0
   | true =>
   refine runf (an @hn (an @hl (an @c0 (an @c1 (an @c2 @ct))))) ?_
   exact er0
 ·have hv : rightTerms d = (idR d.actor && decide (d.object = []) && decide ((d.text.length : Int) ≤ 500) && plainD d) := by
   unfold rightTerms
   rw [if_pos (by omega), hs]
  rw [hv]
  cases ct : decide (d.to = []) with
  | false =>
   have hp : plainD d = false := by unfold plainD; rw [ct]; rfl
   rw [hp]
   refine runf (an @hn (an @hl @ct)) ?_
   refine cp (fidright_c d.actor ha) ?_
   cases c0 : idR d.actor with
   | false =>
    refine runf (an @hn (an @hl @ct)) ?_
    exact er0
   | true =>
   cases c1 : decide (d.object = []) with
   | false =>
    refine runf (an @hn (an @hl (an @ct @c1))) ?_
    exact er0
   | true =>
   cases c2 : decide ((d.text.length : Int) ≤ 500) with
   | false =>
    refine runf (an @hn (an @hl (an @c1 (an @ct @c2)))) ?_
    exact er0
   | true =>
   refine runf (an @hn (an @hl (an @c1 (an @c2 @ct)))) ?_
   exact er0
  | true =>
  by_cases hN : d.n = 0
  ·have hp : plainD d = true := by unfold plainD; rw [ct, decide_eq_true hN]; rfl
   rw [hp]
   refine runf (an @hn (an @hl @ct)) ?_
   refine cp (fidright_c d.actor ha) ?_
   cases c0 : idR d.actor with
   | false =>
    refine runf (an @hn (an @hl @ct)) ?_
    exact er0
   | true =>
   cases c1 : decide (d.object = []) with
   | false =>
    refine runf (an @hn (an @hl (an @ct @c1))) ?_
    exact er0
   | true =>
   cases c2 : decide ((d.text.length : Int) ≤ 500) with
   | false =>
    refine runf (an @hn (an @hl (an @c1 (an @ct @c2)))) ?_
    exact er0
   | true =>
   refine runf (an @hn (an @hl (an @c1 (an @c2 @ct)))) ?_
   exact er0
  ·have hp : plainD d = false := by unfold plainD; rw [decide_eq_false hN, Bool.and_false]
   rw [hp]
   refine runf (an @hn (an @hl @ct)) ?_
   refine cp (fidright_c d.actor ha) ?_
   cases c0 : idR d.actor with
   | false =>
    refine runf (an @hn (an @hl @ct)) ?_
    exact er0
   | true =>
   cases c1 : decide (d.object = []) with
   | false =>
    refine runf (an @hn (an @hl (an @ct @c1))) ?_
    exact er0
   | true =>
   cases c2 : decide ((d.text.length : Int) ≤ 500) with
   | false =>
    refine runf (an @hn (an @hl (an @c1 (an @ct @c2)))) ?_
    exact er0
   | true =>
   refine runf (an @hn (an @hl (an @c1 (an @c2 @ct)))) ?_
   exact er0
 ·have hv : rightTerms d = (idR d.actor && decide (d.object = []) && decide ((d.text.length : Int) ≤ 500) && plainD d) := by
   unfold rightTerms
   rw [if_pos (by omega), hs]
  rw [hv]
  cases ct : decide (d.to = []) with
  | false =>
   have hp : plainD d = false := by unfold plainD; rw [ct]; rfl
   rw [hp]
   refine runf (an @hn (an @hl @ct)) ?_
   refine cp (fidright_c d.actor ha) ?_
   cases c0 : idR d.actor with
   | false =>
    refine runf (an @hn (an @hl @ct)) ?_
    exact er0
   | true =>
   cases c1 : decide (d.object = []) with
   | false =>
    refine runf (an @hn (an @hl (an @ct @c1))) ?_
    exact er0
   | true =>
   cases c2 : decide ((d.text.length : Int) ≤ 500) with
   | false =>
    refine runf (an @hn (an @hl (an @c1 (an @ct @c2)))) ?_
    exact er0
   | true =>
   refine runf (an @hn (an @hl (an @c1 (an @c2 @ct)))) ?_
   exact er0
  | true =>
  by_cases hN : d.n = 0
  ·have hp : plainD d = true := by unfold plainD; rw [ct, decide_eq_true hN]; rfl
   rw [hp]
   refine runf (an @hn (an @hl @ct)) ?_
   refine cp (fidright_c d.actor ha) ?_
   cases c0 : idR d.actor with
   | false =>
    refine runf (an @hn (an @hl @ct)) ?_
    exact er0
   | true =>
   cases c1 : decide (d.object = []) with
   | false =>
    refine runf (an @hn (an @hl (an @ct @c1))) ?_
    exact er0
   | true =>
   cases c2 : decide ((d.text.length : Int) ≤ 500) with
   | false =>
    refine runf (an @hn (an @hl (an @c1 (an @ct @c2)))) ?_
    exact er0
   | true =>
   refine runf (an @hn (an @hl (an @c1 (an @c2 @ct)))) ?_
   exact er0
  ·have hp : plainD d = false := by unfold plainD; rw [decide_eq_false hN, Bool.and_false]
   rw [hp]
   refine runf (an @hn (an @hl @ct)) ?_
   refine cp (fidright_c d.actor ha) ?_
   cases c0 : idR d.actor with
   | false =>
    refine runf (an @hn (an @hl @ct)) ?_
    exact er0
   | true =>
   cases c1 : decide (d.object = []) with
   | false =>
    refine runf (an @hn (an @hl (an @ct @c1))) ?_
    exact er0
   | true =>
   cases c2 : decide ((d.text.length : Int) ≤ 500) with
   | false =>
    refine runf (an @hn (an @hl (an @c1 (an @ct @c2)))) ?_
    exact er0
   | true =>
   refine runf (an @hn (an @hl (an @c1 (an @c2 @ct)))) ?_
   exact er0
 ·have hv : rightTerms d = (decide (d.actor = []) && decide (d.object = []) && decide ((d.text.length : Int) ≤ 500) && idsR d.to && wi d.n 1 d.to.length) := by
   unfold rightTerms
   rw [if_neg (by omega), if_neg (by omega), if_pos (by omega), hs]
  rw [hv]
  cases ct : decide (d.to = []) with
  | false =>
   refine runf (an @hn (an @hl @ct)) ?_
   refine cp (fids_c d.to hts htl) ?_
   cases c0 : idsR d.to with
   | false =>
    cases c1 : decide (d.actor = []) with
    | false =>
     refine runf (an @hn (an @hl (an @ct @c1))) ?_
     exact er0
    | true =>
    cases c2 : decide (d.object = []) with
    | false =>
     refine runf (an @hn (an @hl (an @ct (an @c1 @c2)))) ?_
     exact er0
    | true =>
    cases c3 : decide ((d.text.length : Int) ≤ 500) with
    | false =>
     refine runf (an @hn (an @hl (an @ct (an @c1 (an @c2 @c3))))) ?_
     exact er0
    | true =>
    refine runf (an @hn (an @hl (an @ct (an @c1 (an @c2 @c3))))) ?_
    exact er0
   | true =>
    cases c1 : decide (d.actor = []) with
    | false =>
     refine runf (an @hn (an @hl (an @ct @c1))) ?_
     exact er0
    | true =>
    cases c2 : decide (d.object = []) with
    | false =>
     refine runf (an @hn (an @hl (an @ct (an @c1 @c2)))) ?_
     exact er0
    | true =>
    cases c3 : decide ((d.text.length : Int) ≤ 500) with
    | false =>
     refine runf (an @hn (an @hl (an @ct (an @c1 (an @c2 @c3))))) ?_
     exact er0
    | true =>
    refine runf (an @hn (an @hl (an @ct (an @c1 (an @c2 @c3))))) ?_
    refine cp (ffrom_c d.n 1 d.to.length) ?_
    refine run ?_
    exact er0
  | true =>
  by_cases hN : d.n = 0
  ·skip
   refine runf (an @hn (an @hl @ct)) ?_
   refine cp (fids_c d.to hts htl) ?_
   cases c0 : idsR d.to with
   | false =>
    cases c1 : decide (d.actor = []) with
    | false =>
     refine runf (an @hn (an @hl (an @ct @c1))) ?_
     exact er0
    | true =>
    cases c2 : decide (d.object = []) with
    | false =>
     refine runf (an @hn (an @hl (an @ct (an @c1 @c2)))) ?_
     exact er0
    | true =>
    cases c3 : decide ((d.text.length : Int) ≤ 500) with
    | false =>
     refine runf (an @hn (an @hl (an @ct (an @c1 (an @c2 @c3))))) ?_
     exact er0
    | true =>
    refine runf (an @hn (an @hl (an @ct (an @c1 (an @c2 @c3))))) ?_
    exact er0
   | true =>
    cases c1 : decide (d.actor = []) with
    | false =>
     refine runf (an @hn (an @hl (an @ct @c1))) ?_
     exact er0
    | true =>
    cases c2 : decide (d.object = []) with
    | false =>
     refine runf (an @hn (an @hl (an @ct (an @c1 @c2)))) ?_
     exact er0
    | true =>
    cases c3 : decide ((d.text.length : Int) ≤ 500) with
    | false =>
     refine runf (an @hn (an @hl (an @ct (an @c1 (an @c2 @c3))))) ?_
     exact er0
    | true =>
    refine runf (an @hn (an @hl (an @ct (an @c1 (an @c2 @c3))))) ?_
    refine cp (ffrom_c d.n 1 d.to.length) ?_
    refine run ?_
    exact er0
  ·skip
   refine runf (an @hn (an @hl @ct)) ?_
   refine cp (fids_c d.to hts htl) ?_
   cases c0 : idsR d.to with
   | false =>
    cases c1 : decide (d.actor = []) with
    | false =>
     refine runf (an @hn (an @hl (an @ct @c1))) ?_
     exact er0
    | true =>
    cases c2 : decide (d.object = []) with
    | false =>
     refine runf (an @hn (an @hl (an @ct (an @c1 @c2)))) ?_
     exact er0
    | true =>
    cases c3 : decide ((d.text.length : Int) ≤ 500) with
    | false =>
     refine runf (an @hn (an @hl (an @ct (an @c1 (an @c2 @c3))))) ?_
     exact er0
    | true =>
    refine runf (an @hn (an @hl (an @ct (an @c1 (an @c2 @c3))))) ?_
    exact er0
   | true =>
    cases c1 : decide (d.actor = []) with
    | false =>
     refine runf (an @hn (an @hl (an @ct @c1))) ?_
     exact er0
    | true =>
    cases c2 : decide (d.object = []) with
    | false =>
     refine runf (an @hn (an @hl (an @ct (an @c1 @c2)))) ?_
     exact er0
    | true =>
    cases c3 : decide ((d.text.length : Int) ≤ 500) with
    | false =>
     refine runf (an @hn (an @hl (an @ct (an @c1 (an @c2 @c3))))) ?_
     exact er0
    | true =>
    refine runf (an @hn (an @hl (an @ct (an @c1 (an @c2 @c3))))) ?_
    refine cp (ffrom_c d.n 1 d.to.length) ?_
    refine run ?_
    exact er0
 ·have hv : rightTerms d = (decide (d.actor = []) && decide (d.object = []) && decide ((d.text.length : Int) ≤ 4096) && plainD d) := by
   unfold rightTerms
   rw [if_neg (by omega), if_neg (by omega), if_neg (by omega), if_pos (by omega), show decide (d.text.length ≤ 4096) = decide ((d.text.length : Int) ≤ 4096) by rw [Bool.eq_iff_iff]; simp only [decide_eq_true_eq]; omega]
  rw [hv]
  cases ct : decide (d.to = []) with
  | false =>
   have hp : plainD d = false := by unfold plainD; rw [ct]; rfl
   rw [hp]
   cases c0 : decide (d.actor = []) with
   | false =>
    refine runf (an @hn (an @hl (an @ct @c0))) ?_
    exact er0
   | true =>
   cases c1 : decide (d.object = []) with
   | false =>
    refine runf (an @hn (an @hl (an @c0 (an @ct @c1)))) ?_
    exact er0
   | true =>
   cases c2 : decide ((d.text.length : Int) ≤ 4096) with
   | false =>
    refine runf (an @hn (an @hl (an @c0 (an @c1 (an @ct @c2))))) ?_
    exact er0
   | true =>
   refine runf (an @hn (an @hl (an @c0 (an @c1 (an @c2 @ct))))) ?_
   exact er0
  | true =>
  by_cases hN : d.n = 0
  ·have hp : plainD d = true := by unfold plainD; rw [ct, decide_eq_true hN]; rfl
   rw [hp]
   cases c0 : decide (d.actor = []) with
   | false =>
    refine runf (an @hn (an @hl (an @ct @c0))) ?_
    exact er0
   | true =>
   cases c1 : decide (d.object = []) with
   | false =>
    refine runf (an @hn (an @hl (an @c0 (an @ct @c1)))) ?_
    exact er0
   | true =>
   cases c2 : decide ((d.text.length : Int) ≤ 4096) with
   | false =>
    refine runf (an @hn (an @hl (an @c0 (an @c1 (an @ct @c2))))) ?_
    exact er0
   | true =>
   refine runf (an @hn (an @hl (an @c0 (an @c1 (an @c2 @ct))))) ?_
   exact er0
  ·have hp : plainD d = false := by unfold plainD; rw [decide_eq_false hN, Bool.and_false]
   rw [hp]
   cases c0 : decide (d.actor = []) with
   | false =>
    refine runf (an @hn (an @hl (an @ct @c0))) ?_
    exact er0
   | true =>
   cases c1 : decide (d.object = []) with
   | false =>
    refine runf (an @hn (an @hl (an @c0 (an @ct @c1)))) ?_
    exact er0
   | true =>
   cases c2 : decide ((d.text.length : Int) ≤ 4096) with
   | false =>
    refine runf (an @hn (an @hl (an @c0 (an @c1 (an @ct @c2))))) ?_
    exact er0
   | true =>
   refine runf (an @hn (an @hl (an @c0 (an @c1 (an @c2 @ct))))) ?_
   exact er0
theorem claim_eqb (c : It.Claim) : (c.actor == [] && (c.base == 0 && (c.prev == [] && (c.gen == 0 && (c.home == 0 && (c.pub == 0 && (c.time == 0 && (c.sig.e == 0 && c.sig.s == 0)))))))) = decide (c = claim0) := by
 obtain ⟨a, b, p, g, h, u, t, ⟨x, y⟩⟩ := c
 rw [Bool.eq_iff_iff]
 simp [claim0, sig0]
theorem ballot_eqb (c : It.Ballot) : (c.server == 0 && (c.actor == [] && (c.gen == 0 && (c.claim == [] && (c.time == 0 && (c.sig.e == 0 && c.sig.s == 0)))))) = decide (c = ballot0) := by
 obtain ⟨s, a, g, h, t, ⟨x, y⟩⟩ := c
 rw [Bool.eq_iff_iff]
 simp [ballot0, sig0]
theorem fright13_c (i : It.Item) (h : Iz i) : AC Tryz.prog 37 [itemV i] [] (.bo (It.right i)) [] := by
 refine AC.enter2 [16, 132, 20, 136, 137, 138] [] Tryz.func37 rfl (by decide) (by decide) (Nat.le_of_ble_eq_true rfl) (by kernel_rfl) ?_; simp only [eraseC, eraseO, List.map_cons, List.map_nil, List.map_toArray, List.getElem?_toArray, List.getElem?_cons_zero, List.getElem?_cons_succ, Option.bind_some, Option.bind_none, List.append_eq, List.cons_append, List.nil_append]
 have lz := h.lz
 have k1 := fsame12_c i.act act0 ⟨lz.to, lz.wraps⟩ ⟨by decide, by decide⟩
 have k4 := fsameDecision_c i.decision decision0 lz.dto (by decide)
 have e1 := claim_eqb i.claim
 have e2 := ballot_eqb i.ballot
 refine run ?_
 refine cp k1 ?_
 refine runf (an @e1 @e2) ?_
 refine cp k4 ?_
 by_cases h0 : i.kind = 0
 ·have hv : It.right i = (Ac.right i.act && decide (i.claim = claim0) && decide (i.ballot = ballot0) && decide (i.decision = decision0)) := by
   rw [Bool.eq_iff_iff, It.right_act h0]
   simp [and_assoc]
  rw [hv]
  refine run ?_
  refine cp (fright12_c i.act h.act) ?_
  cases c0 : Ac.right i.act with
  | false =>
   refine run ?_
   exact er0
  | true =>
  cases d1 : decide (i.claim = claim0) with
  | false =>
   refine run ?_
   exact er0
  | true =>
  cases d2 : decide (i.ballot = ballot0) with
  | false =>
   refine run ?_
   exact er0
  | true =>
  cases d3 : decide (i.decision = decision0) with
  | false =>
   refine run ?_
   exact er0
  | true =>
  refine run ?_
  exact er0
 by_cases h1 : i.kind = 1
 ·have hv : It.right i = (rightClaim i.claim && decide (i.act = act0) && decide (i.ballot = ballot0) && decide (i.decision = decision0)) := by
   rw [Bool.eq_iff_iff, It.right_claim h1]
   simp [and_assoc]
  rw [hv]
  refine run ?_
  refine cp (fclaimed13_c i.claim h.claim) ?_
  cases c0 : rightClaim i.claim with
  | false =>
   refine run ?_
   exact er0
  | true =>
  cases d0 : decide (i.act = act0) with
  | false =>
   refine run ?_
   exact er0
  | true =>
  cases d2 : decide (i.ballot = ballot0) with
  | false =>
   refine run ?_
   exact er0
  | true =>
  cases d3 : decide (i.decision = decision0) with
  | false =>
   refine run ?_
   exact er0
  | true =>
  refine run ?_
  exact er0
 by_cases h2 : i.kind = 2
 ·have hv : It.right i = (rightBallot i.ballot && decide (i.act = act0) && decide (i.claim = claim0) && decide (i.decision = decision0)) := by
   rw [Bool.eq_iff_iff, It.right_ballot h2]
   simp [and_assoc]
  rw [hv]
  refine run ?_
  refine cp (fvoted_c i.ballot h.ballot) ?_
  cases c0 : rightBallot i.ballot with
  | false =>
   refine run ?_
   exact er0
  | true =>
  cases d0 : decide (i.act = act0) with
  | false =>
   refine run ?_
   exact er0
  | true =>
  cases d1 : decide (i.claim = claim0) with
  | false =>
   refine run ?_
   exact er0
  | true =>
  cases d3 : decide (i.decision = decision0) with
  | false =>
   refine run ?_
   exact er0
  | true =>
  refine run ?_
  exact er0
 by_cases h3 : i.kind = 3
 ·have hv : It.right i = (rightDecision i.decision && decide (i.act = act0) && decide (i.claim = claim0) && decide (i.ballot = ballot0)) := by
   rw [Bool.eq_iff_iff, It.right_decision h3]
   simp [and_assoc]
  rw [hv]
  refine run ?_
  refine cp (fdecided_c i.decision h.decision.actor h.decision.tos h.decision.to) ?_
  cases c0 : rightDecision i.decision with
  | false =>
   refine run ?_
   exact er0
  | true =>
  cases d0 : decide (i.act = act0) with
  | false =>
   refine run ?_
   exact er0
  | true =>
  cases d1 : decide (i.claim = claim0) with
  | false =>
   refine run ?_
   exact er0
  | true =>
  cases d2 : decide (i.ballot = ballot0) with
  | false =>
   refine run ?_
   exact er0
  | true =>
  refine run ?_
  exact er0
 ·have hv : It.right i = false := by
   cases hr : It.right i with
   | false => rfl
   | true => rcases It.right_kind hr with e | e | e | e <;> contradiction
  rw [hv]
  refine run ?_
  exact er0
theorem fsigBytes_c (s : Sig) (h : (0 ≤ s.e ∧ s.e ≤ 2305843009213693949) ∧ 0 ≤ s.s ∧ s.s ≤ 2305843009213693949) : AC Tryz.prog 142 [sigV s] [] (.st (numI s.e ++ numI s.s)) [] := by
 refine AC.enter2 [120] [] Tryz.func142 rfl (by decide) (by decide) (Nat.le_of_ble_eq_true rfl) (by kernel_rfl) ?_; simp only [eraseC, eraseO, List.map_cons, List.map_nil, List.map_toArray, List.getElem?_toArray, List.getElem?_cons_zero, List.getElem?_cons_succ, Option.bind_some, Option.bind_none, List.append_eq, List.cons_append, List.nil_append]
 have n1 := numI_le s.e (by omega)
 have n2 := numI_le s.s (by omega)
 refine run ?_
 refine cp (fnum_c s.e (by omega)) ?_
 refine run ?_
 refine cp (fnum_c s.s (by omega)) ?_
 refine run ?_
 exact er0
theorem fbytes13_c (i : It.Item) (h : Iz i) : AC Tryz.prog 39 [itemV i] [] (.st (It.bytes i)) [] := by
 refine AC.enter2 [37, 120, 26, 141, 143, 144, 142] [] Tryz.func39 rfl (by decide) (by decide) (Nat.le_of_ble_eq_true rfl) (by kernel_rfl) ?_; simp only [eraseC, eraseO, List.map_cons, List.map_nil, List.map_toArray, List.getElem?_toArray, List.getElem?_cons_zero, List.getElem?_cons_succ, Option.bind_some, Option.bind_none, List.append_eq, List.cons_append, List.nil_append]
 have kr := fright13_c i h
 cases hr : It.right i with
 | false =>
  rw [hr] at kr
  rw [It.bytes_wrong hr]
  refine run ?_
  refine cp kr ?_
  refine run ?_
  exact er0
 | true =>
 rw [hr] at kr
 have h3 := sh_right hr
 have hkk := It.right_kind hr
 have hl0 := numI_le i.kind (by omega)
 have kn := fnum_c i.kind (by omega)
 by_cases h0 : i.kind = 0
 ·rw [bytes_act hr h0]
  have k2 := fbytes12_c i.act h.act
  have hl := bytes_len (a := i.act)
  generalize Ac.bytes i.act = z at *
  generalize numI i.kind = n0 at *
  refine run ?_
  refine cp kr ?_
  refine run ?_
  refine cp kn ?_
  refine run ?_
  refine cp k2 ?_
  refine run ?_
  exact er0
 by_cases hk : i.kind = 1
 ·have hs := sig_right hr (by omega)
  have hb : It.bytes i = numI i.kind ++ claimB i.claim ++ (numI i.claim.sig.e ++ numI i.claim.sig.s) := by
   rw [It.bytes_right hr]
   unfold bodyB coreOf sigOf
   have e0 : i.kind ≠ 0 := by omega
   simp [hk]
  have hsg : sigOf i = i.claim.sig := by unfold sigOf; simp [hk]
  rw [hsg] at hs
  simp only [sigR, Bool.and_eq_true, wi_iff] at hs
  rw [hb]
  have k2 := fclaim_c i.claim h3.ez.c h3.ez.ci
  have k3 := fsigBytes_c i.claim.sig hs
  have hl : (claimB i.claim).length ≤ 60000000 := by have := claimB_len h3.ez; omega
  have n1 := numI_le i.claim.sig.e (by omega)
  have n2 := numI_le i.claim.sig.s (by omega)
  generalize claimB i.claim = core at *
  generalize numI i.kind = n0 at *
  generalize numI i.claim.sig.e = ne at *
  generalize numI i.claim.sig.s = ns at *
  refine run ?_
  refine cp kr ?_
  refine run ?_
  refine cp kn ?_
  refine run ?_
  refine cp k2 ?_
  refine run ?_
  refine cp k3 ?_
  refine run ?_
  exact er0
 by_cases hk : i.kind = 2
 ·have hs := sig_right hr (by omega)
  have hb : It.bytes i = numI i.kind ++ ballotB i.ballot ++ (numI i.ballot.sig.e ++ numI i.ballot.sig.s) := by
   rw [It.bytes_right hr]
   unfold bodyB coreOf sigOf
   have e0 : i.kind ≠ 0 := by omega
   simp [hk]
  have hsg : sigOf i = i.ballot.sig := by unfold sigOf; simp [hk]
  rw [hsg] at hs
  simp only [sigR, Bool.and_eq_true, wi_iff] at hs
  rw [hb]
  have k2 := fballot_c i.ballot h3.ez.b h3.ez.bi
  have k3 := fsigBytes_c i.ballot.sig hs
  have hl : (ballotB i.ballot).length ≤ 60000000 := by have := ballotB_len h3.ez; omega
  have n1 := numI_le i.ballot.sig.e (by omega)
  have n2 := numI_le i.ballot.sig.s (by omega)
  generalize ballotB i.ballot = core at *
  generalize numI i.kind = n0 at *
  generalize numI i.ballot.sig.e = ne at *
  generalize numI i.ballot.sig.s = ns at *
  refine run ?_
  refine cp kr ?_
  refine run ?_
  refine cp kn ?_
  refine run ?_
  refine cp k2 ?_
  refine run ?_
  refine cp k3 ?_
  refine run ?_
  exact er0
 have hk : i.kind = 3 := by omega
 have hs := sig_right hr (by omega)
 have hb : It.bytes i = numI i.kind ++ decisionB i.decision ++ (numI i.decision.sig.e ++ numI i.decision.sig.s) := by
  rw [It.bytes_right hr]
  unfold bodyB coreOf sigOf
  have e0 : i.kind ≠ 0 := by omega
  simp [hk]
 have hsg : sigOf i = i.decision.sig := by unfold sigOf; simp [hk]
 rw [hsg] at hs
 simp only [sigR, Bool.and_eq_true, wi_iff] at hs
 rw [hb]
 have k2 := fdecision_c i.decision h3.ez.d h3.ez.dt h3.ez.di
 have k3 := fsigBytes_c i.decision.sig hs
 have hl : (decisionB i.decision).length ≤ 60000000 := by have := decisionB_len h3; omega
 have n1 := numI_le i.decision.sig.e (by omega)
 have n2 := numI_le i.decision.sig.s (by omega)
 generalize decisionB i.decision = core at *
 generalize numI i.kind = n0 at *
 generalize numI i.decision.sig.e = ne at *
 generalize numI i.decision.sig.s = ns at *
 refine run ?_
 refine cp kr ?_
 refine run ?_
 refine cp kn ?_
 refine run ?_
 refine cp k2 ?_
 refine run ?_
 refine cp k3 ?_
 refine run ?_
 exact er0
theorem bytes13_ne {i : It.Item} (h : It.right i = true) : It.bytes i ≠ [] := by
 have hk := It.right_kind h
 rw [It.bytes_right h]
 exact fun e => absurd (List.append_eq_nil_iff.1 e).1 (numI_ne (by omega))
theorem fentryBytes_c (e : It.Entry) (h : Iz e.item) : AC Tryz.prog 46 [entryV e] [] (.st (entryB e)) [] := by
 refine AC.enter2 [39, 151, 120] [] Tryz.func46 rfl (by decide) (by decide) (Nat.le_of_ble_eq_true rfl) (by kernel_rfl) ?_; simp only [eraseC, eraseO, List.map_cons, List.map_nil, List.map_toArray, List.getElem?_toArray, List.getElem?_cons_zero, List.getElem?_cons_succ, Option.bind_some, Option.bind_none, List.append_eq, List.cons_append, List.nil_append]
 have kb := fbytes13_c e.item h
 have hl := bytesIt_len e.item
 refine run ?_
 refine cp kb ?_
 cases hr : It.right e.item with
 | false =>
  have h0 := It.bytes_wrong hr
  have h1 : entryB e = [] := by unfold entryB; rw [hr, Bool.and_false]; rfl
  rw [h1, h0]
  refine run ?_
  exact er0
 | true =>
  have hne := bytes13_ne hr
  have hq : (It.bytes e.item == []) = false := by simpa using hne
  have kt := ffrom_c e.time 0 1099511627776
  cases ht : wi e.time 0 1099511627776 with
  | false =>
   rw [ht] at kt
   have h1 : entryB e = [] := by unfold entryB isTime; rw [ht]; rfl
   rw [h1]
   refine runf @hq ?_
   refine cp kt ?_
   refine runf @hq ?_
   exact er0
  | true =>
   rw [ht] at kt
   have h1 : entryB e = numI e.time ++ It.bytes e.item := by unfold entryB isTime; rw [ht, hr]; rfl
   have htm := wi_iff.1 ht
   have n1 := numI_le e.time (by omega)
   rw [h1]
   generalize It.bytes e.item = z at *
   refine runf @hq ?_
   refine cp kt ?_
   refine runf @hq ?_
   refine cp (fnum_c e.time (by omega)) ?_
   refine run ?_
   exact er0
end Go.Proofs.YtaphpbiaoofmkaaGreatDoor.Pe
end
section
namespace Go.Proofs.YtaphpbiaoofmkaaGreatDoor.Pe
open Go Go.RowKit Co Sg Ac It Sl
set_option maxRecDepth 100000
set_option maxHeartbeats 4000000
theorem fdel29_c (e : It.Entry) (id : By) (h : Iz e.item) : AC Tryz.prog 170 [entryV e, .st id] [] (.bo (delT e id)) [] := by
 refine AC.enter2 [46] [] Tryz.func170 rfl (by decide) (by decide) (Nat.le_of_ble_eq_true rfl) (by kernel_rfl) ?_; simp only [eraseC, eraseO, List.map_cons, List.map_nil, List.map_toArray, List.getElem?_toArray, List.getElem?_cons_zero, List.getElem?_cons_succ, Option.bind_some, Option.bind_none, List.append_eq, List.cons_append, List.nil_append]
 have kb := fentryBytes_c e h
 have hd : delT e id = (decide (entryB e ≠ []) && decide (e.item.kind = 0) && decide (e.item.act.kind = 13) && decide (e.item.act.object = id)) := by
  have hn := entryB_ne (e := e)
  unfold isTime at hn
  unfold delT
  by_cases hb : entryB e = []
  ·rw [decide_eq_false (show ¬ entryB e ≠ [] from fun h => h hb)]
   cases h1 : wi e.time 0 1099511627776
   ·simp
   ·cases h2 : It.right e.item
    ·simp
    ·exact absurd hb (hn.2 ⟨h1, h2⟩)
  ·obtain ⟨h1, h2⟩ := hn.1 hb
   rw [decide_eq_true (show entryB e ≠ [] from hb), h1, h2, Bool.and_true]
 rw [hd]
 clear hd
 generalize entryB e = b at *
 by_cases hb : b = []
 ·have hq : (b == []) = true := by rw [hb]; rfl
  rw [decide_eq_false (show ¬ b ≠ [] from fun h => h hb)]
  refine run ?_
  refine cp kb ?_
  refine runf @hq ?_
  exact er0
 have hq : (b == []) = false := by simpa using hb
 rw [decide_eq_true (show b ≠ [] from hb)]
 by_cases c3 : e.item.kind = 0
 rotate_left
 ·have q3 : (e.item.kind == 0) = false := beqF c3
  rw [decide_eq_false c3]
  refine run ?_
  refine cp kb ?_
  refine runf (an @hq @q3) ?_
  exact er0
 have q3 : (e.item.kind == 0) = true := by rw [c3]; rfl
 rw [decide_eq_true c3]
 by_cases c4 : e.item.act.kind = 13
 rotate_left
 ·have q4 : (e.item.act.kind == 13) = false := beqF c4
  rw [decide_eq_false c4]
  refine run ?_
  refine cp kb ?_
  refine runf (an @hq (an @q3 @q4)) ?_
  exact er0
 have q4 : (e.item.act.kind == 13) = true := by rw [c4]; rfl
 rw [decide_eq_true c4]
 by_cases c5 : e.item.act.object = id
 ·have q5 : (e.item.act.object == id) = true := by rw [c5]; exact beq_self_eq_true _
  rw [decide_eq_true c5]
  refine run ?_
  refine cp kb ?_
  refine runf (an @hq (an @q3 (an @q4 @q5))) ?_
  exact er0
 ·have q5 : (e.item.act.object == id) = false := by simpa using c5
  rw [decide_eq_false c5]
  refine run ?_
  refine cp kb ?_
  refine runf (an @hq (an @q3 (an @q4 @q5))) ?_
  exact er0
end Go.Proofs.YtaphpbiaoofmkaaGreatDoor.Pe
end
section
namespace Go.Proofs.YtaphpbiaoofmkaaGreatDoor.Pe
open Go Sm Mk
set_option maxRecDepth 100000
theorem rsplit_c (n : Nat) (h : 2 ≤ n) (h' : n < 9223372036854775808) : AC Tryz.prog 178 [.it .i64 n] [] (.it .i64 (sp n)) [] := by
 refine AC.enter [] [] Tryz.func178 rfl (by decide) (by decide) (Nat.le_of_ble_eq_true rfl) (by kernel_rfl) ?_; simp only [eraseC, eraseO, List.map_cons, List.map_nil, List.map_toArray, List.getElem?_toArray, List.getElem?_cons_zero, List.getElem?_cons_succ, Option.bind_some, Option.bind_none, List.append_eq, List.cons_append, List.nil_append]
 refine run ?_
 refine loop_mk (fun m e S => S = [] ∧ e 0 = .it .i64 n ∧ ∃ j, e 3 = .it .i64 ((2 ^ j : Nat) : Int) ∧ 2 ^ j < n ∧ m = n - 2 ^ j) (n - 1) ⟨rfl, (by first | rfl | (simp only [↓upd_apply, ↓put_some, ↓reduceIte, Nat.reduceEqDiff, ↓argEnv_zero, ↓argEnv_succ, *]; done)), 0, (by first | rfl | (simp only [↓upd_apply, ↓put_some, ↓reduceIte, Nat.reduceEqDiff, ↓argEnv_zero, ↓argEnv_succ, *]; done)), by omega, rfl⟩ ?_
 rintro m e S ⟨rfl, h0, j, h3, hj, rfl⟩
 generalize hk : 2 ^ j = k at *
 have hw : IntKind.i64.wrap ((n : Int) - (k : Int)) = (n : Int) - (k : Int) := wrap64 (by omega) (by omega)
 refine runf (an @h0 (an @h3 @hw)) ?_
 refine iteP_mk (fun hc => ?_) (fun hc => ?_)
 ·have hlt : k < n - k := by simp at hc; omega
  have hw2 : IntKind.i64.wrap (2 * (k : Int)) = 2 * (k : Int) := wrap64 (by omega) (by omega)
  refine runf (an @h0 (an @h3 @hw2)) ?_
  exact round_mk (n - 2 * k) (by have := Nat.pow_pos (n := j) (show 0 < 2 by omega); omega) ⟨rfl, (by first | rfl | (simp only [↓upd_apply, ↓put_some, ↓reduceIte, Nat.reduceEqDiff, ↓argEnv_zero, ↓argEnv_succ, *]; done)), j + 1, by rw [Nat.pow_succ, hk, Nat.mul_comm]; exact (by first | rfl | (simp only [↓upd_apply, ↓put_some, ↓reduceIte, Nat.reduceEqDiff, ↓argEnv_zero, ↓argEnv_succ, *]; done)), by rw [Nat.pow_succ, hk]; omega, by rw [Nat.pow_succ, hk, Nat.mul_comm]⟩
 ·have hge : ¬ k < n - k := by simp at hc; omega
  refine runf (an @h0 @h3) ?_
  have e : sp n = k := by rw [← hk]; exact sp_of (by omega) (by rw [Nat.pow_succ]; omega)
  rw [e]
  exact ends_ret0 (by rfl) (by rfl) (by rfl)
theorem rleaf_c (l : List UInt8) (h : l.length ≤ 1000000) : AC Tryz.prog 181 [.st l] [] (.st (leaf l)) [] := by
 refine AC.enter [146] [] Tryz.func181 rfl (by decide) (by decide) (Nat.le_of_ble_eq_true rfl) (by kernel_rfl) ?_; simp only [eraseC, eraseO, List.map_cons, List.map_nil, List.map_toArray, List.getElem?_toArray, List.getElem?_cons_zero, List.getElem?_cons_succ, Option.bind_some, Option.bind_none, List.append_eq, List.cons_append, List.nil_append]
 refine run ?_
 refine call_pure (rsha_c (0 :: l) (by simp; omega)) (by rfl) (by rfl) (by rfl) ?_
 refine run ?_
 exact ends_ret0 (by rfl) (by rfl) (by rfl)
theorem rpre_c (l r : List UInt8) (h : l.length ≤ 1000000) (h' : r.length ≤ 1000000) : AC Tryz.prog 180 [.st l, .st r] [] (.st (pre l r)) [] := by
 refine AC.enter [] [] Tryz.func180 rfl (by decide) (by decide) (Nat.le_of_ble_eq_true rfl) (by kernel_rfl) ?_; simp only [eraseC, eraseO, List.map_cons, List.map_nil, List.map_toArray, List.getElem?_toArray, List.getElem?_cons_zero, List.getElem?_cons_succ, Option.bind_some, Option.bind_none, List.append_eq, List.cons_append, List.nil_append]
 refine run ?_
 exact ends_ret0 (by rfl) (by rfl) (by rfl)
theorem rnode_c (l r : List UInt8) (h : l.length ≤ 1000000) (h' : r.length ≤ 1000000) : AC Tryz.prog 179 [.st l, .st r] [] (.st (node l r)) [] := by
 refine AC.enter [146, 180] [] Tryz.func179 rfl (by decide) (by decide) (Nat.le_of_ble_eq_true rfl) (by kernel_rfl) ?_; simp only [eraseC, eraseO, List.map_cons, List.map_nil, List.map_toArray, List.getElem?_toArray, List.getElem?_cons_zero, List.getElem?_cons_succ, Option.bind_some, Option.bind_none, List.append_eq, List.cons_append, List.nil_append]
 refine run ?_
 refine call_pure (rpre_c l r h h') (by rfl) (by rfl) (by rfl) ?_
 refine run ?_
 refine call_pure (rsha_c (pre l r) (by simp [pre]; omega)) (by rfl) (by rfl) (by rfl) ?_
 refine run ?_
 exact ends_ret0 (by rfl) (by rfl) (by rfl)
theorem rroot_c (k : Nat) : ∀ (l : List By), l.length ≤ k → l.length ≤ 1000000 → (∀ x ∈ l, x.length ≤ 1000000) →
  AC Tryz.prog 182 [sls l] [] (.st (root l)) [] := by
 induction k with
 | zero =>
  intro l hk hl hx
  have : l = [] := List.eq_nil_of_length_eq_zero (by omega)
  subst this
  refine AC.enter [182, 178, 179, 146] [] Tryz.func182 rfl (by decide) (by decide) (Nat.le_of_ble_eq_true rfl) (by kernel_rfl) ?_; simp only [eraseC, eraseO, List.map_cons, List.map_nil, List.map_toArray, List.getElem?_toArray, List.getElem?_cons_zero, List.getElem?_cons_succ, Option.bind_some, Option.bind_none, List.append_eq, List.cons_append, List.nil_append]
  refine run ?_
  refine call_pure (rsha_c [] (by simp)) (by rfl) (by rfl) (by rfl) ?_
  refine run ?_
  exact ends_ret0 (by rfl) (by rfl) (by rfl)
 | succ k ih =>
  intro l hk hl hx
  refine AC.enter [182, 178, 179, 146] [] Tryz.func182 rfl (by decide) (by decide) (Nat.le_of_ble_eq_true rfl) (by kernel_rfl) ?_; simp only [eraseC, eraseO, List.map_cons, List.map_nil, List.map_toArray, List.getElem?_toArray, List.getElem?_cons_zero, List.getElem?_cons_succ, Option.bind_some, Option.bind_none, List.append_eq, List.cons_append, List.nil_append]
  by_cases h0 : l.length = 0
  ·have : l = [] := List.eq_nil_of_length_eq_zero (by omega)
   subst this
   refine run ?_
   refine call_pure (rsha_c [] (by simp)) (by rfl) (by rfl) (by rfl) ?_
   refine run ?_
   exact ends_ret0 (by rfl) (by rfl) (by rfl)
  rw [root_rt (by omega)]
  by_cases h1 : l.length = 1
  ·obtain ⟨a, rfl⟩ := List.length_eq_one_iff.1 h1
   refine run ?_
   rw [rt_one (by simp)]
   exact ends_ret0 (by rfl) (by rfl) (by rfl)
  ·have h2 : 2 ≤ l.length := by omega
   have h3 := sp_lt h2
   have h4 := sp_pos l.length
   have ht : (List.take (sp l.length) l).length = sp l.length := by simp; omega
   have hd : (l.drop (sp l.length)).length = l.length - sp l.length := List.length_drop
   have hxt : ∀ x ∈ l.take (sp l.length), x.length ≤ 1000000 := fun x hx' => hx x (List.mem_of_mem_take hx')
   have hxd : ∀ x ∈ l.drop (sp l.length), x.length ≤ 1000000 := fun x hx' => hx x (List.mem_of_mem_drop hx')
   have f1 := ih (l.take (sp l.length)) (by omega) (by omega) hxt
   have f2 := ih (l.drop (sp l.length)) (by omega) (by omega) hxd
   rw [root_rt (by omega)] at f1 f2
   refine run ?_
   refine call_pure (rsplit_c l.length h2 (by omega)) (by rfl) (by rfl) (by rfl) ?_
   refine run ?_
   refine call_pure f1 (by rfl) (by rfl) (by rfl) ?_
   refine runf (@List.take_length (List UInt8)) ?_
   refine call_pure f2 (by rfl) (by rfl) (by rfl) ?_
   refine run ?_
   refine call_pure (rnode_c _ _ (rt_len hxt) (rt_len hxd)) (by rfl) (by rfl) (by rfl) ?_
   refine run ?_
   rw [rt_two h2]
   exact ends_ret0 (by rfl) (by rfl) (by rfl)
theorem rpath_c (k : Nat) : ∀ (l : List By) (i : Nat), l.length ≤ k → i < l.length → l.length ≤ 1000000 → (∀ x ∈ l, x.length ≤ 1000000) →
  AC Tryz.prog 166 [sls l, .it .i64 i] [] (.sl (.own 0) ((path l i).map .st)) [.buf (path l i).length 9 1] := by
 induction k with
 | zero => intro l i h1 h2; omega
 | succ k ih =>
  intro l i hk hi hl hx
  refine AC.enter [178, 182] [] Tryz.func166 rfl (by decide) (by decide) (Nat.le_of_ble_eq_true rfl) (by kernel_rfl) ?_; simp only [eraseC, eraseO, List.map_cons, List.map_nil, List.map_toArray, List.getElem?_toArray, List.getElem?_cons_zero, List.getElem?_cons_succ, Option.bind_some, Option.bind_none, List.append_eq, List.cons_append, List.nil_append]
  by_cases h1 : l.length = 1
  ·refine run ?_
   rw [path_one (by omega)]
   refine ends_retW _ _ (Weak.reserve _ 4 (es := []) (by rfl) 9 1) [0] (by rfl) (subOk_one 0 (by rfl) (by rfl)) (by rfl) (by rfl) (by rfl)
  ·have h2 : 2 ≤ l.length := by omega
   have h3 := sp_lt h2
   have h4 := sp_pos l.length
   have ht : (List.take (sp l.length) l).length = sp l.length := by simp; omega
   have hd : (l.drop (sp l.length)).length = l.length - sp l.length := List.length_drop
   have hxt : ∀ x ∈ l.take (sp l.length), x.length ≤ 1000000 := fun x hx' => hx x (List.mem_of_mem_take hx')
   have hxd : ∀ x ∈ l.drop (sp l.length), x.length ≤ 1000000 := fun x hx' => hx x (List.mem_of_mem_drop hx')
   have f1 := rroot_c _ (l.take (sp l.length)) (Nat.le_refl _) (by omega) hxt
   have f2 := rroot_c _ (l.drop (sp l.length)) (Nat.le_refl _) (by omega) hxd
   rw [root_rt (by omega)] at f1 f2
   refine run ?_
   refine call_pure (rsplit_c l.length h2 (by omega)) (by rfl) (by rfl) (by rfl) ?_
   by_cases hs : i < sp l.length
   ·have hp := path_len (l.take (sp l.length)).length (l.take (sp l.length)) i (Nat.le_refl _)
    refine runf (@List.take_length (List UInt8)) ?_
    refine call_mk (ih (l.take (sp l.length)) i (by omega) (by omega) (by omega) hxt) ?_
    refine runf (@List.take_length (List UInt8)) ?_
    refine call_pure f2 (by rfl) (by rfl) (by rfl) ?_
    refine run ?_
    rw [path_two h2, if_pos hs]
    exact ends_ret (κ := [0]) (by rfl) (subOk_one 0 (by rfl) (by simp [SObj.ren])) (by rfl) (by rfl) (by simp [resV, AV.ren, AV.r2, AV.r1, AV.r0, Mode.ren, idx, ↓upd_apply])
   ·have hp := path_len (l.drop (sp l.length)).length (l.drop (sp l.length)) (i - sp l.length) (Nat.le_refl _)
    have hsub : ((i : Int) - (sp l.length : Int)) = ((i - sp l.length : Nat) : Int) := by omega
    refine runf (an (@List.take_length (List UInt8)) @hsub) ?_
    refine call_mk (ih (l.drop (sp l.length)) (i - sp l.length) (by omega) (by omega) (by omega) hxd) ?_
    refine runf (@List.take_length (List UInt8)) ?_
    refine call_pure f1 (by rfl) (by rfl) (by rfl) ?_
    refine run ?_
    rw [path_two h2, if_neg hs]
    exact ends_ret (κ := [0]) (by rfl) (subOk_one 0 (by rfl) (by simp [SObj.ren])) (by rfl) (by rfl) (by simp [resV, AV.ren, AV.r2, AV.r1, AV.r0, Mode.ren, idx, ↓upd_apply])
end Go.Proofs.YtaphpbiaoofmkaaGreatDoor.Pe
end
section
namespace Go.Proofs.YtaphpbiaoofmkaaGreatDoor.Pe
open Go Go.RowKit Co Sg Ac It Sl
set_option maxRecDepth 100000
set_option maxHeartbeats 4000000
theorem rleaf15_c (e : It.Entry) (h : Iz e.item) : AC Tryz.prog 81 [entryV e] [] (.st (leafE e)) [] := by
 refine AC.enter2 [46, 181] [] Tryz.func81 rfl (by decide) (by decide) (Nat.le_of_ble_eq_true rfl) (by kernel_rfl) ?_; simp only [eraseC, eraseO, List.map_cons, List.map_nil, List.map_toArray, List.getElem?_toArray, List.getElem?_cons_zero, List.getElem?_cons_succ, Option.bind_some, Option.bind_none, List.append_eq, List.cons_append, List.nil_append]
 have hl := entryB_len e
 have k1 := fentryBytes_c e h
 have k2 := rleaf_c (entryB e) (by omega)
 refine run ?_
 refine cp k1 ?_
 refine run ?_
 refine cp k2 ?_
 refine run ?_
 exact er0
theorem rleaves15_c (l : List It.Entry) (hl : l.length ≤ 1000000) (hz : ∀ e ∈ l, Iz e.item) : AC Tryz.prog 83 [entriesV l] [] (sls (l.map leafE)) [] := by
 refine AC.enter2 [81] [] Tryz.func83 rfl (by decide) (by decide) (Nat.le_of_ble_eq_true rfl) (by kernel_rfl) ?_; simp only [eraseC, eraseO, List.map_cons, List.map_nil, List.map_toArray, List.getElem?_toArray, List.getElem?_cons_zero, List.getElem?_cons_succ, Option.bind_some, Option.bind_none, List.append_eq, List.cons_append, List.nil_append]
 have hsz := entries_sz l
 refine run ?_
 refine loop_mk' (fun m e S => e 0 = entriesV l ∧ ∃ (k : Nat) (acc : List By) (T : Store), e 4 = .it .i64 (k : Int) ∧ e 3 = .sl (.own 0) (acc.map .st) ∧ S = .buf acc.length 9 1 :: T ∧ acc = (l.take k).map leafE ∧ k ≤ l.length ∧ m = l.length - k) l.length _ _ (Weak.reserve 0 3 (es := []) (by rfl) 9 1)
  ⟨(by first | rfl | (simp only [↓upd_apply, ↓put_some, ↓reduceIte, Nat.reduceEqDiff, ↓argEnv_zero, ↓argEnv_succ, *]; done)), 0, [], [], (by first | rfl | (simp only [↓upd_apply, ↓put_some, ↓reduceIte, Nat.reduceEqDiff, ↓argEnv_zero, ↓argEnv_succ, *]; done)), (by first | rfl | (simp only [↓upd_apply, ↓put_some, ↓reduceIte, Nat.reduceEqDiff, ↓argEnv_zero, ↓argEnv_succ, *]; done)), rfl, by simp, by omega, rfl⟩ ?_
 rintro m e S ⟨s0, k, acc, T, s4, s3, rfl, hacc, hk, rfl⟩
 have hT1 : ∀ y : SObj, (T ++ [y])[T.length]? = some y := fun y => by simp
 have hT2 : ∀ y z : SObj, (T ++ [y]).set T.length z = T ++ [z] := fun y z => by simp
 have hal : acc.length = k := by rw [hacc, List.length_map, List.length_take, Nat.min_eq_left hk]
 by_cases hlt : k < l.length
 ·have hg : l[k]? = some l[k] := List.getElem?_eq_getElem hlt
  have hzk := hz l[k] (List.getElem_mem hlt)
  have hst : acc ++ [leafE l[k]] = (l.take (k + 1)).map leafE := by rw [List.take_succ_eq_append_getElem hlt, List.map_append, ← hacc]; rfl
  generalize l[k] = x at *
  have kx := rleaf15_c x hzk
  refine runf (an @s0 (an @s4 (an @s3 (an @hg (an @hsz (an @hT1 @hT2)))))) ?_
  refine cp kx ?_
  refine runf (an @s0 (an @s4 @s3)) ?_
  exact round_mk (l.length - (k + 1)) (by omega) ⟨(by first | rfl | (simp only [↓upd_apply, ↓put_some, ↓reduceIte, Nat.reduceEqDiff, ↓argEnv_zero, ↓argEnv_succ, *]; done)), k + 1, acc ++ [leafE x], _, (by first | rfl | (simp only [↓upd_apply, ↓put_some, ↓reduceIte, Nat.reduceEqDiff, ↓argEnv_zero, ↓argEnv_succ, *]; done)), by rw [List.map_append]; exact (by first | rfl | (simp only [↓upd_apply, ↓put_some, ↓reduceIte, Nat.reduceEqDiff, ↓argEnv_zero, ↓argEnv_succ, *]; done)), by rw [List.length_append]; rfl, hst, by omega, rfl⟩
 ·obtain rfl : k = l.length := by omega
  rw [List.take_length] at hacc
  subst hacc
  refine runf (an @s0 (an @s4 @s3)) ?_
  exact er0w
theorem rroot15_c (l : List It.Entry) (hl : l.length ≤ 1000000) (hz : ∀ e ∈ l, Iz e.item) : AC Tryz.prog 165 [entriesV l] [] (.st (rootE l)) [] := by
 refine AC.enter2 [83, 182] [] Tryz.func165 rfl (by decide) (by decide) (Nat.le_of_ble_eq_true rfl) (by kernel_rfl) ?_; simp only [eraseC, eraseO, List.map_cons, List.map_nil, List.map_toArray, List.getElem?_toArray, List.getElem?_cons_zero, List.getElem?_cons_succ, Option.bind_some, Option.bind_none, List.append_eq, List.cons_append, List.nil_append]
 have k1 := rleaves15_c l hl hz
 have k2 := rroot_c l.length (l.map leafE) (by simp) (by simp; omega) (fun x hx => by rw [leaves_dig l x hx]; omega)
 refine run ?_
 refine cp k1 ?_
 refine run ?_
 refine cp k2 ?_
 refine run ?_
 exact er0
end Go.Proofs.YtaphpbiaoofmkaaGreatDoor.Pe
end
section
namespace Go.Proofs.YtaphpbiaoofmkaaGreatDoor.Pe
open Go Go.RowKit Co Sg Ac It Sl
set_option maxRecDepth 100000
set_option maxHeartbeats 4000000
theorem fprove29_c (l : List It.Entry) (i : Int) (r : Receipt) (hl : l.length ≤ 1000000) (hz : ∀ e ∈ l, Iz e.item) : AC Tryz.prog 70 [entriesV l, .it .i64 i, rcptV r] [] (.tup [graveV (proveT l i r).1, .bo (proveT l i r).2]) [] := by
 refine AC.enter4 [165, 83] [] [(4, ([0], [40, 47], []))] [] Tryz.func70 rfl (by decide) (by decide) (Nat.le_of_ble_eq_true rfl) (by kernel_rfl) ?_; simp only [eraseC, eraseO, List.map_cons, List.map_nil, List.map_toArray, List.getElem?_toArray, List.getElem?_cons_zero, List.getElem?_cons_succ, Option.bind_some, Option.bind_none, List.append_eq, List.cons_append, List.nil_append, eraseC4, eraseC3, hasSp, ordOf, List.isEmpty_nil, List.isEmpty_cons, Bool.and_true, Bool.and_false, Bool.and_self, Bool.false_and, Bool.true_and, List.lookup, Nat.reduceBEq, beq_self_eq_true, Option.isSome_some, Option.isSome_none, Bool.or_true, Bool.true_or, Bool.or_false, Bool.not_true, Bool.not_false, Bool.false_eq_true, if_true, if_false, ↓reduceIte, List.size_toArray, List.length_cons, List.length_nil, List.range_succ_eq_map, List.range_zero, Nat.reduceAdd, List.filterMap_cons, List.filterMap_nil]
 have hsz := entries_sz l
 unfold proveT
 by_cases c1 : i < 0
 ·rw [if_pos (.inl c1)]
  refine runf4 @c1 ?_
  exact er0w
 by_cases c2 : r.head.size ≤ i
 ·rw [if_pos (.inr (.inl c2))]
  refine runf4 (an @c1 @c2) ?_
  exact er0w
 by_cases c3 : (l.length : Int) < r.head.size
 ·rw [if_pos (.inr (.inr (.inl c3)))]
  refine runf4 (an @c1 (an @c2 @c3)) ?_
  exact er0w
 have d1 : 0 ≤ i := by omega
 have d2 : 0 ≤ r.head.size := by omega
 have d3 : r.head.size.toNat ≤ l.length := by omega
 have hlt : i.toNat < l.length := by omega
 have kr := rroot15_c (l.take r.head.size.toNat) (by rw [List.length_take]; omega) (fun e he => hz e (List.mem_of_mem_take he))
 have kv := rleaves15_c (l.take r.head.size.toNat) (by rw [List.length_take]; omega) (fun e he => hz e (List.mem_of_mem_take he))
 have hg : l[i.toNat]? = some (l.getD i.toNat ⟨0, item0⟩) := by rw [List.getD_eq_getElem?_getD, List.getElem?_eq_getElem hlt]; rfl
 generalize l.getD i.toNat ⟨0, item0⟩ = x at *
 have hll : ((l.take r.head.size.toNat).map leafE).length = r.head.size.toNat := by rw [List.length_map, List.length_take]; omega
 have hdig := leaves_dig (l.take r.head.size.toNat)
 generalize (l.take r.head.size.toNat).map leafE = L at *
 have kp := rpath_c L.length L i.toNat (Nat.le_refl _) (by omega) (by omega) (fun y hy => by rw [hdig y hy]; omega)
 have e1 : ((i.toNat : Nat) : Int) = i := by omega
 rw [e1] at kp
 have kp' : ∀ o1 o2 : SObj, AC Tryz.prog 166 [sls L, .it .i64 i] [o1, o2] (.sl (.own 2) ((Mk.path L i.toNat).map .st)) [o1, o2, .buf (Mk.path L i.toNat).length 9 1] := fun o1 o2 => AC.fresh1 kp (by rfl) (by rfl) (by rfl) [o1, o2]
 generalize Mk.path L i.toNat = p at *
 generalize rootE (l.take r.head.size.toNat) = rt at *
 have hlti : i < (l.length : Int) := by omega
 refine runf4 (an @c1 (an @c2 (an @c3 (an @d2 (an @d3 @hsz))))) ?_
 refine cp kr ?_
 by_cases c4 : rt = r.head.root
 rotate_left
 ·have q4 := nilI _ _ c4
  rw [if_pos (.inr (.inr (.inr c4)))]
  refine runf4 @q4 ?_
  exact er0w
 have q4 : (rt == r.head.root) = true := by rw [c4]; exact beq_self_eq_true _
 rw [if_neg (by rintro (h | h | h | h) <;> first | exact h | exact h c4 | omega)]
 refine runf4 @q4 ?_
 refine wk0 ?_; refine run4 ?_
 repeat (first | refine k4 ?_ | refine k4r ?_ | (refine a4r ?_; refine runf4 (an @d1 (an @d2 (an @d3 (an @hsz (an @hg @hlti))))) ?_) | (refine a4 ?_; refine runf4 (an @d1 (an @d2 (an @d3 (an @hsz (an @hg @hlti))))) ?_)); try refine runf4 (an @d1 (an @d2 (an @d3 (an @hsz (an @hg @hlti))))) ?_
 refine cp kv ?_
 repeat (first | refine k4 ?_ | refine k4r ?_ | (refine a4r ?_; refine runf4 @d1 ?_) | (refine a4 ?_; refine runf4 @d1 ?_)); try refine runf4 @d1 ?_
 refine call_mk (kp' _ _) ?_
 repeat (first | refine k4 ?_ | refine k4r ?_ | (refine a4r ?_; refine runf4 @d1 ?_) | (refine a4 ?_; refine runf4 @d1 ?_)); try refine runf4 @d1 ?_
 exact er0w
end Go.Proofs.YtaphpbiaoofmkaaGreatDoor.Pe
end
