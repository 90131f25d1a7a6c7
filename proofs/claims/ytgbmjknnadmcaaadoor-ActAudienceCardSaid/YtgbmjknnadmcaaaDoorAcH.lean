/- The walks of ActFields and ActAudience on plain values. -/
import Derived.Test.YtgbmjknnadmcaaaDoorAcF
import Derived.Test.YtgbmjknnadmcaaaDoorActR
namespace Go.Proofs.YtgbmjknnadmcaaaDoor.Pe
set_option linter.unusedSectionVars false
set_option linter.unusedVariables false
set_option linter.unusedSimpArgs false
open Go Go.RowKit Co Sg Ac
set_option maxRecDepth 100000
set_option maxHeartbeats 4000000
theorem posting_t {k : Int} (h : 1 ≤ k ∧ k ≤ 3) : posting k = true := by
  have : k = 1 ∨ k = 2 ∨ k = 3 := by omega
  rcases this with rfl | rfl | rfl <;> rfl
theorem posting_f {k : Int} (h : ¬ (1 ≤ k ∧ k ≤ 3)) : posting k = false := by
  unfold posting
  rw [decide_eq_false (by omega), decide_eq_false (by omega), decide_eq_false (by omega)]
  rfl
theorem actFields_B0 (a : Ac.Act) (ha : In a) (hf : few a = true) (hr : right a = true) (hk : a.kind = 0) (hs : a.scope = 0) : AC Tryd.prog 6 [actV a] [] (.bo true) [] := by
  refine AC.enter [8, 9, 11, 19, 20, 21] [] Tryd.func6 rfl (by decide) (by decide) (Nat.le_of_ble_eq_true rfl) (by kernel_rfl) ?_; simp only [eraseC, eraseO, List.map_cons, List.map_nil, List.map_toArray, List.getElem?_toArray, List.getElem?_cons_zero, List.getElem?_cons_succ, Option.bind_some, Option.bind_none, List.append_eq, List.cons_append, List.nil_append]
  have za := ha.sz
  have sm := right_sm hr
  obtain ⟨f1, f2, f3, f4, f5, f6, f7⟩ := right_fields hr
  have kf := few_c a ha
  rw [hf] at kf
  have kr := right_c a za
  rw [hr] at kr
  have ki := idright_c a.author za.author
  rw [f1] at ki
  have kids := ids_c a.to za.tos za.to
  rw [f2] at kids
  have kp := posting_c a.kind
  rw [posting_f (by omega)] at kp
  have zb : Sz { a with epoch := a.epoch + 1 } := ⟨za.author, za.target, za.group, za.text, za.tos, za.to, za.wraps⟩
  have kb := right_c { a with epoch := a.epoch + 1 } zb
  rw [no_epoch hr hs (by omega)] at kb
  have zd : Sz { a with object := a.object ++ [120] } := ⟨za.author, za.target, za.group, za.text, za.tos, za.to, za.wraps⟩
  have kd := right_c { a with object := a.object ++ [120] } zd
  rw [no_object hr] at kd
  have ze : Sz { a with target := a.target ++ [120] } := ⟨za.author, by show (a.target ++ [120]).length ≤ _; have := sm.target; simp only [List.length_append, List.length_singleton]; omega, za.group, za.text, za.tos, za.to, za.wraps⟩
  have ke := right_c { a with target := a.target ++ [120] } ze
  rw [no_target hr] at ke
  have zf : Sz { a with wraps := ⟨1, 1, box0⟩ :: a.wraps } := ⟨za.author, za.target, za.group, za.text, za.tos, za.to, by show a.wraps.length + 1 ≤ _; have := sm.wraps.1; omega⟩
  have kw := right_c { a with wraps := ⟨1, 1, box0⟩ :: a.wraps } zf
  rw [no_wrap hr] at kw
  have b1 := sm.epoch
  have b2 := sm.m
  have b3 := sm.object
  have b4 := sm.target
  have b5 := sm.wraps.1
  have b6 := sm.seq
  have hsz : allSz 5 (a.wraps.map wrapV) = true := allSz_map 5 wrapV (fun _ => rfl) _
  have hq : a.seq = 0 ∧ a.prev = [] := by rcases f3 with h | h; exact ⟨h.1, h.2.2⟩; exact absurd hk h.2.1
  have hq1 := hq.1
  have e4 : (a.prev == []) = true := by rw [hq.2]; rfl
  have hw0 := f7 (by omega) (by omega)
  clear ha hf hr f1 f2 f3 f4 f5 f6 f7 sm za zd ze zf zb
  refine run ?_
  refine cp small_c ?_
  refine run ?_
  refine cp kf ?_
  refine run ?_
  refine cp kr ?_
  refine run ?_
  refine cp ki ?_
  refine run ?_
  refine cp kids ?_
  refine runf @e4 ?_
  refine cp kp ?_
  refine runf (And.intro @e4 @hsz) ?_
  refine cp kb ?_
  refine run ?_
  refine cp kd ?_
  refine run ?_
  refine cp ke ?_
  refine run ?_
  refine cp kw ?_
  refine run ?_
  exact er0
theorem actFields_B1 (a : Ac.Act) (ha : In a) (hf : few a = true) (hr : right a = true) (hk : a.kind = 0) (hs : a.scope ≠ 0) : AC Tryd.prog 6 [actV a] [] (.bo true) [] := by
  refine AC.enter [8, 9, 11, 19, 20, 21] [] Tryd.func6 rfl (by decide) (by decide) (Nat.le_of_ble_eq_true rfl) (by kernel_rfl) ?_; simp only [eraseC, eraseO, List.map_cons, List.map_nil, List.map_toArray, List.getElem?_toArray, List.getElem?_cons_zero, List.getElem?_cons_succ, Option.bind_some, Option.bind_none, List.append_eq, List.cons_append, List.nil_append]
  have za := ha.sz
  have sm := right_sm hr
  obtain ⟨f1, f2, f3, f4, f5, f6, f7⟩ := right_fields hr
  have kf := few_c a ha
  rw [hf] at kf
  have kr := right_c a za
  rw [hr] at kr
  have ki := idright_c a.author za.author
  rw [f1] at ki
  have kids := ids_c a.to za.tos za.to
  rw [f2] at kids
  have kp := posting_c a.kind
  rw [posting_f (by omega)] at kp
  have zd : Sz { a with object := a.object ++ [120] } := ⟨za.author, za.target, za.group, za.text, za.tos, za.to, za.wraps⟩
  have kd := right_c { a with object := a.object ++ [120] } zd
  rw [no_object hr] at kd
  have ze : Sz { a with target := a.target ++ [120] } := ⟨za.author, by show (a.target ++ [120]).length ≤ _; have := sm.target; simp only [List.length_append, List.length_singleton]; omega, za.group, za.text, za.tos, za.to, za.wraps⟩
  have ke := right_c { a with target := a.target ++ [120] } ze
  rw [no_target hr] at ke
  have zf : Sz { a with wraps := ⟨1, 1, box0⟩ :: a.wraps } := ⟨za.author, za.target, za.group, za.text, za.tos, za.to, by show a.wraps.length + 1 ≤ _; have := sm.wraps.1; omega⟩
  have kw := right_c { a with wraps := ⟨1, 1, box0⟩ :: a.wraps } zf
  rw [no_wrap hr] at kw
  have b1 := sm.epoch
  have b2 := sm.m
  have b3 := sm.object
  have b4 := sm.target
  have b5 := sm.wraps.1
  have b6 := sm.seq
  have hsz : allSz 5 (a.wraps.map wrapV) = true := allSz_map 5 wrapV (fun _ => rfl) _
  have hq : a.seq = 0 ∧ a.prev = [] := by rcases f3 with h | h; exact ⟨h.1, h.2.2⟩; exact absurd hk h.2.1
  have hq1 := hq.1
  have e4 : (a.prev == []) = true := by rw [hq.2]; rfl
  have hw0 := f7 (by omega) (by omega)
  clear ha hf hr f1 f2 f3 f4 f5 f6 f7 sm za zd ze zf
  refine run ?_
  refine cp small_c ?_
  refine run ?_
  refine cp kf ?_
  refine run ?_
  refine cp kr ?_
  refine run ?_
  refine cp ki ?_
  refine run ?_
  refine cp kids ?_
  refine runf @e4 ?_
  refine cp kp ?_
  refine runf (And.intro @e4 @hsz) ?_
  refine cp kd ?_
  refine run ?_
  refine cp ke ?_
  refine run ?_
  refine cp kw ?_
  refine run ?_
  exact er0
theorem actFields_P0 (a : Ac.Act) (ha : In a) (hf : few a = true) (hr : right a = true) (hk : 1 ≤ a.kind ∧ a.kind ≤ 3) (hs : a.scope = 0) : AC Tryd.prog 6 [actV a] [] (.bo true) [] := by
  refine AC.enter [8, 9, 11, 19, 20, 21] [] Tryd.func6 rfl (by decide) (by decide) (Nat.le_of_ble_eq_true rfl) (by kernel_rfl) ?_; simp only [eraseC, eraseO, List.map_cons, List.map_nil, List.map_toArray, List.getElem?_toArray, List.getElem?_cons_zero, List.getElem?_cons_succ, Option.bind_some, Option.bind_none, List.append_eq, List.cons_append, List.nil_append]
  have za := ha.sz
  have sm := right_sm hr
  obtain ⟨f1, f2, f3, f4, f5, f6, f7⟩ := right_fields hr
  have kf := few_c a ha
  rw [hf] at kf
  have kr := right_c a za
  rw [hr] at kr
  have ki := idright_c a.author za.author
  rw [f1] at ki
  have kids := ids_c a.to za.tos za.to
  rw [f2] at kids
  have kp := posting_c a.kind
  rw [posting_t hk] at kp
  have zc : Sz { a with m := a.m - 1 } := ⟨za.author, za.target, za.group, za.text, za.tos, za.to, za.wraps⟩
  have kc := right_c { a with m := a.m - 1 } zc
  rw [no_m hr (by omega) (by omega) (by omega)] at kc
  have zb : Sz { a with epoch := a.epoch + 1 } := ⟨za.author, za.target, za.group, za.text, za.tos, za.to, za.wraps⟩
  have kb := right_c { a with epoch := a.epoch + 1 } zb
  rw [no_epoch hr hs (by omega)] at kb
  have zd : Sz { a with object := a.object ++ [120] } := ⟨za.author, za.target, za.group, za.text, za.tos, za.to, za.wraps⟩
  have kd := right_c { a with object := a.object ++ [120] } zd
  rw [no_object hr] at kd
  have ze : Sz { a with target := a.target ++ [120] } := ⟨za.author, by show (a.target ++ [120]).length ≤ _; have := sm.target; simp only [List.length_append, List.length_singleton]; omega, za.group, za.text, za.tos, za.to, za.wraps⟩
  have ke := right_c { a with target := a.target ++ [120] } ze
  rw [no_target hr] at ke
  have zf : Sz { a with wraps := ⟨1, 1, box0⟩ :: a.wraps } := ⟨za.author, za.target, za.group, za.text, za.tos, za.to, by show a.wraps.length + 1 ≤ _; have := sm.wraps.1; omega⟩
  have kw := right_c { a with wraps := ⟨1, 1, box0⟩ :: a.wraps } zf
  rw [no_wrap hr] at kw
  have b1 := sm.epoch
  have b2 := sm.m
  have b3 := sm.object
  have b4 := sm.target
  have b5 := sm.wraps.1
  have b6 := sm.seq
  have hsz : allSz 5 (a.wraps.map wrapV) = true := allSz_map 5 wrapV (fun _ => rfl) _
  have hq : 0 < a.seq ∧ a.prev.length = 32 := by rcases f3 with h | h; exact absurd h.2.1 (by omega); exact ⟨h.1, h.2.2⟩
  have hq1 := hq.1
  have hq2 := hq.2
  have e4 : (a.prev == []) = false := by simp only [beq_eq_false_iff_ne]; intro e; rw [e] at hq2; simp at hq2
  have hw0 := f7 (by omega) (by omega)
  clear ha hf hr f1 f2 f3 f4 f5 f6 f7 sm za zd ze zf zb zc
  refine run ?_
  refine cp small_c ?_
  refine run ?_
  refine cp kf ?_
  refine run ?_
  refine cp kr ?_
  refine run ?_
  refine cp ki ?_
  refine run ?_
  refine cp kids ?_
  refine runf @e4 ?_
  refine cp kp ?_
  refine runf (And.intro @e4 @hsz) ?_
  refine cp kb ?_
  refine run ?_
  refine cp kc ?_
  refine run ?_
  refine cp kd ?_
  refine run ?_
  refine cp ke ?_
  refine run ?_
  refine cp kw ?_
  refine run ?_
  exact er0
theorem actFields_P1 (a : Ac.Act) (ha : In a) (hf : few a = true) (hr : right a = true) (hk : 1 ≤ a.kind ∧ a.kind ≤ 3) (hs : a.scope ≠ 0) : AC Tryd.prog 6 [actV a] [] (.bo true) [] := by
  refine AC.enter [8, 9, 11, 19, 20, 21] [] Tryd.func6 rfl (by decide) (by decide) (Nat.le_of_ble_eq_true rfl) (by kernel_rfl) ?_; simp only [eraseC, eraseO, List.map_cons, List.map_nil, List.map_toArray, List.getElem?_toArray, List.getElem?_cons_zero, List.getElem?_cons_succ, Option.bind_some, Option.bind_none, List.append_eq, List.cons_append, List.nil_append]
  have za := ha.sz
  have sm := right_sm hr
  obtain ⟨f1, f2, f3, f4, f5, f6, f7⟩ := right_fields hr
  have kf := few_c a ha
  rw [hf] at kf
  have kr := right_c a za
  rw [hr] at kr
  have ki := idright_c a.author za.author
  rw [f1] at ki
  have kids := ids_c a.to za.tos za.to
  rw [f2] at kids
  have kp := posting_c a.kind
  rw [posting_t hk] at kp
  have zc : Sz { a with m := a.m - 1 } := ⟨za.author, za.target, za.group, za.text, za.tos, za.to, za.wraps⟩
  have kc := right_c { a with m := a.m - 1 } zc
  rw [no_m hr (by omega) (by omega) (by omega)] at kc
  have zd : Sz { a with object := a.object ++ [120] } := ⟨za.author, za.target, za.group, za.text, za.tos, za.to, za.wraps⟩
  have kd := right_c { a with object := a.object ++ [120] } zd
  rw [no_object hr] at kd
  have ze : Sz { a with target := a.target ++ [120] } := ⟨za.author, by show (a.target ++ [120]).length ≤ _; have := sm.target; simp only [List.length_append, List.length_singleton]; omega, za.group, za.text, za.tos, za.to, za.wraps⟩
  have ke := right_c { a with target := a.target ++ [120] } ze
  rw [no_target hr] at ke
  have zf : Sz { a with wraps := ⟨1, 1, box0⟩ :: a.wraps } := ⟨za.author, za.target, za.group, za.text, za.tos, za.to, by show a.wraps.length + 1 ≤ _; have := sm.wraps.1; omega⟩
  have kw := right_c { a with wraps := ⟨1, 1, box0⟩ :: a.wraps } zf
  rw [no_wrap hr] at kw
  have b1 := sm.epoch
  have b2 := sm.m
  have b3 := sm.object
  have b4 := sm.target
  have b5 := sm.wraps.1
  have b6 := sm.seq
  have hsz : allSz 5 (a.wraps.map wrapV) = true := allSz_map 5 wrapV (fun _ => rfl) _
  have hq : 0 < a.seq ∧ a.prev.length = 32 := by rcases f3 with h | h; exact absurd h.2.1 (by omega); exact ⟨h.1, h.2.2⟩
  have hq1 := hq.1
  have hq2 := hq.2
  have e4 : (a.prev == []) = false := by simp only [beq_eq_false_iff_ne]; intro e; rw [e] at hq2; simp at hq2
  have hp := f4 hk.1 hk.2 hs
  have et := hp.1
  have hnn := hp.2
  have hw0 := f7 (by omega) (by omega)
  have et' : (a.text == []) = true := by rw [et]; rfl
  clear et
  clear ha hf hr f1 f2 f3 f4 f5 f6 f7 sm za zd ze zf zc
  refine run ?_
  refine cp small_c ?_
  refine run ?_
  refine cp kf ?_
  refine run ?_
  refine cp kr ?_
  refine run ?_
  refine cp ki ?_
  refine run ?_
  refine cp kids ?_
  refine runf (And.intro @e4 @et') ?_
  refine cp kp ?_
  refine runf (And.intro @e4 (And.intro @et' @hsz)) ?_
  refine cp kc ?_
  refine run ?_
  refine cp kd ?_
  refine run ?_
  refine cp ke ?_
  refine run ?_
  refine cp kw ?_
  refine run ?_
  exact er0
theorem actFields_F0 (a : Ac.Act) (ha : In a) (hf : few a = true) (hr : right a = true) (hk : 7 ≤ a.kind ∧ a.kind ≤ 11) (hs : a.scope = 0) : AC Tryd.prog 6 [actV a] [] (.bo true) [] := by
  refine AC.enter [8, 9, 11, 19, 20, 21] [] Tryd.func6 rfl (by decide) (by decide) (Nat.le_of_ble_eq_true rfl) (by kernel_rfl) ?_; simp only [eraseC, eraseO, List.map_cons, List.map_nil, List.map_toArray, List.getElem?_toArray, List.getElem?_cons_zero, List.getElem?_cons_succ, Option.bind_some, Option.bind_none, List.append_eq, List.cons_append, List.nil_append]
  have za := ha.sz
  have sm := right_sm hr
  obtain ⟨f1, f2, f3, f4, f5, f6, f7⟩ := right_fields hr
  have kf := few_c a ha
  rw [hf] at kf
  have kr := right_c a za
  rw [hr] at kr
  have ki := idright_c a.author za.author
  rw [f1] at ki
  have kids := ids_c a.to za.tos za.to
  rw [f2] at kids
  have kp := posting_c a.kind
  rw [posting_f (by omega)] at kp
  have zc : Sz { a with m := a.m - 1 } := ⟨za.author, za.target, za.group, za.text, za.tos, za.to, za.wraps⟩
  have kc := right_c { a with m := a.m - 1 } zc
  rw [no_m hr (by omega) (by omega) (by omega)] at kc
  have zb : Sz { a with epoch := a.epoch + 1 } := ⟨za.author, za.target, za.group, za.text, za.tos, za.to, za.wraps⟩
  have kb := right_c { a with epoch := a.epoch + 1 } zb
  rw [no_epoch hr hs (by omega)] at kb
  have zd : Sz { a with object := a.object ++ [120] } := ⟨za.author, za.target, za.group, za.text, za.tos, za.to, za.wraps⟩
  have kd := right_c { a with object := a.object ++ [120] } zd
  rw [no_object hr] at kd
  have ze : Sz { a with target := a.target ++ [120] } := ⟨za.author, by show (a.target ++ [120]).length ≤ _; have := sm.target; simp only [List.length_append, List.length_singleton]; omega, za.group, za.text, za.tos, za.to, za.wraps⟩
  have ke := right_c { a with target := a.target ++ [120] } ze
  rw [no_target hr] at ke
  have zf : Sz { a with wraps := ⟨1, 1, box0⟩ :: a.wraps } := ⟨za.author, za.target, za.group, za.text, za.tos, za.to, by show a.wraps.length + 1 ≤ _; have := sm.wraps.1; omega⟩
  have kw := right_c { a with wraps := ⟨1, 1, box0⟩ :: a.wraps } zf
  rw [no_wrap hr] at kw
  have b1 := sm.epoch
  have b2 := sm.m
  have b3 := sm.object
  have b4 := sm.target
  have b5 := sm.wraps.1
  have b6 := sm.seq
  have hsz : allSz 5 (a.wraps.map wrapV) = true := allSz_map 5 wrapV (fun _ => rfl) _
  have hq : 0 < a.seq ∧ a.prev.length = 32 := by rcases f3 with h | h; exact absurd h.2.1 (by omega); exact ⟨h.1, h.2.2⟩
  have hq1 := hq.1
  have hq2 := hq.2
  have e4 : (a.prev == []) = false := by simp only [beq_eq_false_iff_ne]; intro e; rw [e] at hq2; simp at hq2
  obtain ⟨q1, eo, et, eto⟩ := f5 hk.1 hk.2
  have kt := idright_c a.target za.target
  rw [q1] at kt
  have hw0 := f7 (by omega) (by omega)
  have eo' : (a.object == []) = true := by rw [eo]; rfl
  have et' : (a.text == []) = true := by rw [et]; rfl
  have eto' : a.to.length = 0 := by rw [eto]; rfl
  clear eo et eto
  clear ha hf hr f1 f2 f3 f4 f5 f6 f7 sm za zd ze zf zb zc
  refine run ?_
  refine cp small_c ?_
  refine run ?_
  refine cp kf ?_
  refine run ?_
  refine cp kr ?_
  refine run ?_
  refine cp ki ?_
  refine run ?_
  refine cp kids ?_
  refine runf (And.intro @e4 (And.intro @eo' @et')) ?_
  refine cp kp ?_
  refine runf (And.intro @e4 (And.intro @eo' @et')) ?_
  refine cp kt ?_
  refine runf (And.intro @e4 (And.intro @eo' (And.intro @et' @hsz))) ?_
  refine cp kb ?_
  refine run ?_
  refine cp kc ?_
  refine run ?_
  refine cp kd ?_
  refine run ?_
  refine cp ke ?_
  refine run ?_
  refine cp kw ?_
  refine run ?_
  exact er0
theorem actFields_F1 (a : Ac.Act) (ha : In a) (hf : few a = true) (hr : right a = true) (hk : 7 ≤ a.kind ∧ a.kind ≤ 11) (hs : a.scope ≠ 0) : AC Tryd.prog 6 [actV a] [] (.bo true) [] := by
  refine AC.enter [8, 9, 11, 19, 20, 21] [] Tryd.func6 rfl (by decide) (by decide) (Nat.le_of_ble_eq_true rfl) (by kernel_rfl) ?_; simp only [eraseC, eraseO, List.map_cons, List.map_nil, List.map_toArray, List.getElem?_toArray, List.getElem?_cons_zero, List.getElem?_cons_succ, Option.bind_some, Option.bind_none, List.append_eq, List.cons_append, List.nil_append]
  have za := ha.sz
  have sm := right_sm hr
  obtain ⟨f1, f2, f3, f4, f5, f6, f7⟩ := right_fields hr
  have kf := few_c a ha
  rw [hf] at kf
  have kr := right_c a za
  rw [hr] at kr
  have ki := idright_c a.author za.author
  rw [f1] at ki
  have kids := ids_c a.to za.tos za.to
  rw [f2] at kids
  have kp := posting_c a.kind
  rw [posting_f (by omega)] at kp
  have zc : Sz { a with m := a.m - 1 } := ⟨za.author, za.target, za.group, za.text, za.tos, za.to, za.wraps⟩
  have kc := right_c { a with m := a.m - 1 } zc
  rw [no_m hr (by omega) (by omega) (by omega)] at kc
  have zd : Sz { a with object := a.object ++ [120] } := ⟨za.author, za.target, za.group, za.text, za.tos, za.to, za.wraps⟩
  have kd := right_c { a with object := a.object ++ [120] } zd
  rw [no_object hr] at kd
  have ze : Sz { a with target := a.target ++ [120] } := ⟨za.author, by show (a.target ++ [120]).length ≤ _; have := sm.target; simp only [List.length_append, List.length_singleton]; omega, za.group, za.text, za.tos, za.to, za.wraps⟩
  have ke := right_c { a with target := a.target ++ [120] } ze
  rw [no_target hr] at ke
  have zf : Sz { a with wraps := ⟨1, 1, box0⟩ :: a.wraps } := ⟨za.author, za.target, za.group, za.text, za.tos, za.to, by show a.wraps.length + 1 ≤ _; have := sm.wraps.1; omega⟩
  have kw := right_c { a with wraps := ⟨1, 1, box0⟩ :: a.wraps } zf
  rw [no_wrap hr] at kw
  have b1 := sm.epoch
  have b2 := sm.m
  have b3 := sm.object
  have b4 := sm.target
  have b5 := sm.wraps.1
  have b6 := sm.seq
  have hsz : allSz 5 (a.wraps.map wrapV) = true := allSz_map 5 wrapV (fun _ => rfl) _
  have hq : 0 < a.seq ∧ a.prev.length = 32 := by rcases f3 with h | h; exact absurd h.2.1 (by omega); exact ⟨h.1, h.2.2⟩
  have hq1 := hq.1
  have hq2 := hq.2
  have e4 : (a.prev == []) = false := by simp only [beq_eq_false_iff_ne]; intro e; rw [e] at hq2; simp at hq2
  obtain ⟨q1, eo, et, eto⟩ := f5 hk.1 hk.2
  have kt := idright_c a.target za.target
  rw [q1] at kt
  have hw0 := f7 (by omega) (by omega)
  have eo' : (a.object == []) = true := by rw [eo]; rfl
  have et' : (a.text == []) = true := by rw [et]; rfl
  have eto' : a.to.length = 0 := by rw [eto]; rfl
  clear eo et eto
  clear ha hf hr f1 f2 f3 f4 f5 f6 f7 sm za zd ze zf zc
  refine run ?_
  refine cp small_c ?_
  refine run ?_
  refine cp kf ?_
  refine run ?_
  refine cp kr ?_
  refine run ?_
  refine cp ki ?_
  refine run ?_
  refine cp kids ?_
  refine runf (And.intro @e4 (And.intro @eo' @et')) ?_
  refine cp kp ?_
  refine runf (And.intro @e4 (And.intro @eo' @et')) ?_
  refine cp kt ?_
  refine runf (And.intro @e4 (And.intro @eo' (And.intro @et' @hsz))) ?_
  refine cp kc ?_
  refine run ?_
  refine cp kd ?_
  refine run ?_
  refine cp ke ?_
  refine run ?_
  refine cp kw ?_
  refine run ?_
  exact er0
theorem actFields_G0 (a : Ac.Act) (ha : In a) (hf : few a = true) (hr : right a = true) (hk : a.kind = 16) (hs : a.scope = 0) : AC Tryd.prog 6 [actV a] [] (.bo true) [] := by
  refine AC.enter [8, 9, 11, 19, 20, 21] [] Tryd.func6 rfl (by decide) (by decide) (Nat.le_of_ble_eq_true rfl) (by kernel_rfl) ?_; simp only [eraseC, eraseO, List.map_cons, List.map_nil, List.map_toArray, List.getElem?_toArray, List.getElem?_cons_zero, List.getElem?_cons_succ, Option.bind_some, Option.bind_none, List.append_eq, List.cons_append, List.nil_append]
  have za := ha.sz
  have sm := right_sm hr
  obtain ⟨f1, f2, f3, f4, f5, f6, f7⟩ := right_fields hr
  have kf := few_c a ha
  rw [hf] at kf
  have kr := right_c a za
  rw [hr] at kr
  have ki := idright_c a.author za.author
  rw [f1] at ki
  have kids := ids_c a.to za.tos za.to
  rw [f2] at kids
  have kp := posting_c a.kind
  rw [posting_f (by omega)] at kp
  have zc : Sz { a with m := a.m - 1 } := ⟨za.author, za.target, za.group, za.text, za.tos, za.to, za.wraps⟩
  have kc := right_c { a with m := a.m - 1 } zc
  rw [no_m hr (by omega) (by omega) (by omega)] at kc
  have zd : Sz { a with object := a.object ++ [120] } := ⟨za.author, za.target, za.group, za.text, za.tos, za.to, za.wraps⟩
  have kd := right_c { a with object := a.object ++ [120] } zd
  rw [no_object hr] at kd
  have ze : Sz { a with target := a.target ++ [120] } := ⟨za.author, by show (a.target ++ [120]).length ≤ _; have := sm.target; simp only [List.length_append, List.length_singleton]; omega, za.group, za.text, za.tos, za.to, za.wraps⟩
  have ke := right_c { a with target := a.target ++ [120] } ze
  rw [no_target hr] at ke
  have zf : Sz { a with wraps := ⟨1, 1, box0⟩ :: a.wraps } := ⟨za.author, za.target, za.group, za.text, za.tos, za.to, by show a.wraps.length + 1 ≤ _; have := sm.wraps.1; omega⟩
  have kw := right_c { a with wraps := ⟨1, 1, box0⟩ :: a.wraps } zf
  rw [no_wrap hr] at kw
  have b1 := sm.epoch
  have b2 := sm.m
  have b3 := sm.object
  have b4 := sm.target
  have b5 := sm.wraps.1
  have b6 := sm.seq
  have hsz : allSz 5 (a.wraps.map wrapV) = true := allSz_map 5 wrapV (fun _ => rfl) _
  have hq : 0 < a.seq ∧ a.prev.length = 32 := by rcases f3 with h | h; exact absurd h.2.1 (by omega); exact ⟨h.1, h.2.2⟩
  have hq1 := hq.1
  have hq2 := hq.2
  have e4 : (a.prev == []) = false := by simp only [beq_eq_false_iff_ne]; intro e; rw [e] at hq2; simp at hq2
  have hwl := f6 (by omega)
  clear ha hf hr f1 f2 f3 f4 f5 f6 f7 sm za zd ze zf zc
  refine run ?_
  refine cp small_c ?_
  refine run ?_
  refine cp kf ?_
  refine run ?_
  refine cp kr ?_
  refine run ?_
  refine cp ki ?_
  refine run ?_
  refine cp kids ?_
  refine runf @e4 ?_
  refine cp kp ?_
  refine runf (And.intro @e4 @hsz) ?_
  refine cp kc ?_
  refine run ?_
  refine cp kd ?_
  refine run ?_
  refine cp ke ?_
  refine run ?_
  refine cp kw ?_
  refine run ?_
  exact er0
theorem actFields_G1 (a : Ac.Act) (ha : In a) (hf : few a = true) (hr : right a = true) (hk : a.kind = 16) (hs : a.scope ≠ 0) : AC Tryd.prog 6 [actV a] [] (.bo true) [] := by
  refine AC.enter [8, 9, 11, 19, 20, 21] [] Tryd.func6 rfl (by decide) (by decide) (Nat.le_of_ble_eq_true rfl) (by kernel_rfl) ?_; simp only [eraseC, eraseO, List.map_cons, List.map_nil, List.map_toArray, List.getElem?_toArray, List.getElem?_cons_zero, List.getElem?_cons_succ, Option.bind_some, Option.bind_none, List.append_eq, List.cons_append, List.nil_append]
  have za := ha.sz
  have sm := right_sm hr
  obtain ⟨f1, f2, f3, f4, f5, f6, f7⟩ := right_fields hr
  have kf := few_c a ha
  rw [hf] at kf
  have kr := right_c a za
  rw [hr] at kr
  have ki := idright_c a.author za.author
  rw [f1] at ki
  have kids := ids_c a.to za.tos za.to
  rw [f2] at kids
  have kp := posting_c a.kind
  rw [posting_f (by omega)] at kp
  have zc : Sz { a with m := a.m - 1 } := ⟨za.author, za.target, za.group, za.text, za.tos, za.to, za.wraps⟩
  have kc := right_c { a with m := a.m - 1 } zc
  rw [no_m hr (by omega) (by omega) (by omega)] at kc
  have zd : Sz { a with object := a.object ++ [120] } := ⟨za.author, za.target, za.group, za.text, za.tos, za.to, za.wraps⟩
  have kd := right_c { a with object := a.object ++ [120] } zd
  rw [no_object hr] at kd
  have ze : Sz { a with target := a.target ++ [120] } := ⟨za.author, by show (a.target ++ [120]).length ≤ _; have := sm.target; simp only [List.length_append, List.length_singleton]; omega, za.group, za.text, za.tos, za.to, za.wraps⟩
  have ke := right_c { a with target := a.target ++ [120] } ze
  rw [no_target hr] at ke
  have zf : Sz { a with wraps := ⟨1, 1, box0⟩ :: a.wraps } := ⟨za.author, za.target, za.group, za.text, za.tos, za.to, by show a.wraps.length + 1 ≤ _; have := sm.wraps.1; omega⟩
  have kw := right_c { a with wraps := ⟨1, 1, box0⟩ :: a.wraps } zf
  rw [no_wrap hr] at kw
  have b1 := sm.epoch
  have b2 := sm.m
  have b3 := sm.object
  have b4 := sm.target
  have b5 := sm.wraps.1
  have b6 := sm.seq
  have hsz : allSz 5 (a.wraps.map wrapV) = true := allSz_map 5 wrapV (fun _ => rfl) _
  have hq : 0 < a.seq ∧ a.prev.length = 32 := by rcases f3 with h | h; exact absurd h.2.1 (by omega); exact ⟨h.1, h.2.2⟩
  have hq1 := hq.1
  have hq2 := hq.2
  have e4 : (a.prev == []) = false := by simp only [beq_eq_false_iff_ne]; intro e; rw [e] at hq2; simp at hq2
  have hwl := f6 (by omega)
  clear ha hf hr f1 f2 f3 f4 f5 f6 f7 sm za zd ze zf zc
  refine run ?_
  refine cp small_c ?_
  refine run ?_
  refine cp kf ?_
  refine run ?_
  refine cp kr ?_
  refine run ?_
  refine cp ki ?_
  refine run ?_
  refine cp kids ?_
  refine runf @e4 ?_
  refine cp kp ?_
  refine runf (And.intro @e4 @hsz) ?_
  refine cp kc ?_
  refine run ?_
  refine cp kd ?_
  refine run ?_
  refine cp ke ?_
  refine run ?_
  refine cp kw ?_
  refine run ?_
  exact er0
theorem actFields_M0 (a : Ac.Act) (ha : In a) (hf : few a = true) (hr : right a = true) (hk : a.kind = 18) (hs : a.scope = 0) : AC Tryd.prog 6 [actV a] [] (.bo true) [] := by
  refine AC.enter [8, 9, 11, 19, 20, 21] [] Tryd.func6 rfl (by decide) (by decide) (Nat.le_of_ble_eq_true rfl) (by kernel_rfl) ?_; simp only [eraseC, eraseO, List.map_cons, List.map_nil, List.map_toArray, List.getElem?_toArray, List.getElem?_cons_zero, List.getElem?_cons_succ, Option.bind_some, Option.bind_none, List.append_eq, List.cons_append, List.nil_append]
  have za := ha.sz
  have sm := right_sm hr
  obtain ⟨f1, f2, f3, f4, f5, f6, f7⟩ := right_fields hr
  have kf := few_c a ha
  rw [hf] at kf
  have kr := right_c a za
  rw [hr] at kr
  have ki := idright_c a.author za.author
  rw [f1] at ki
  have kids := ids_c a.to za.tos za.to
  rw [f2] at kids
  have kp := posting_c a.kind
  rw [posting_f (by omega)] at kp
  have zb : Sz { a with epoch := a.epoch + 1 } := ⟨za.author, za.target, za.group, za.text, za.tos, za.to, za.wraps⟩
  have kb := right_c { a with epoch := a.epoch + 1 } zb
  rw [no_epoch hr hs (by omega)] at kb
  have zd : Sz { a with object := a.object ++ [120] } := ⟨za.author, za.target, za.group, za.text, za.tos, za.to, za.wraps⟩
  have kd := right_c { a with object := a.object ++ [120] } zd
  rw [no_object hr] at kd
  have ze : Sz { a with target := a.target ++ [120] } := ⟨za.author, by show (a.target ++ [120]).length ≤ _; have := sm.target; simp only [List.length_append, List.length_singleton]; omega, za.group, za.text, za.tos, za.to, za.wraps⟩
  have ke := right_c { a with target := a.target ++ [120] } ze
  rw [no_target hr] at ke
  have zf : Sz { a with wraps := ⟨1, 1, box0⟩ :: a.wraps } := ⟨za.author, za.target, za.group, za.text, za.tos, za.to, by show a.wraps.length + 1 ≤ _; have := sm.wraps.1; omega⟩
  have kw := right_c { a with wraps := ⟨1, 1, box0⟩ :: a.wraps } zf
  rw [no_wrap hr] at kw
  have b1 := sm.epoch
  have b2 := sm.m
  have b3 := sm.object
  have b4 := sm.target
  have b5 := sm.wraps.1
  have b6 := sm.seq
  have hsz : allSz 5 (a.wraps.map wrapV) = true := allSz_map 5 wrapV (fun _ => rfl) _
  have hq : 0 < a.seq ∧ a.prev.length = 32 := by rcases f3 with h | h; exact absurd h.2.1 (by omega); exact ⟨h.1, h.2.2⟩
  have hq1 := hq.1
  have hq2 := hq.2
  have e4 : (a.prev == []) = false := by simp only [beq_eq_false_iff_ne]; intro e; rw [e] at hq2; simp at hq2
  have hw0 := f7 (by omega) (by omega)
  clear ha hf hr f1 f2 f3 f4 f5 f6 f7 sm za zd ze zf zb
  refine run ?_
  refine cp small_c ?_
  refine run ?_
  refine cp kf ?_
  refine run ?_
  refine cp kr ?_
  refine run ?_
  refine cp ki ?_
  refine run ?_
  refine cp kids ?_
  refine runf @e4 ?_
  refine cp kp ?_
  refine runf (And.intro @e4 @hsz) ?_
  refine cp kb ?_
  refine run ?_
  refine cp kd ?_
  refine run ?_
  refine cp ke ?_
  refine run ?_
  refine cp kw ?_
  refine run ?_
  exact er0
theorem actFields_M1 (a : Ac.Act) (ha : In a) (hf : few a = true) (hr : right a = true) (hk : a.kind = 18) (hs : a.scope ≠ 0) : AC Tryd.prog 6 [actV a] [] (.bo true) [] := by
  refine AC.enter [8, 9, 11, 19, 20, 21] [] Tryd.func6 rfl (by decide) (by decide) (Nat.le_of_ble_eq_true rfl) (by kernel_rfl) ?_; simp only [eraseC, eraseO, List.map_cons, List.map_nil, List.map_toArray, List.getElem?_toArray, List.getElem?_cons_zero, List.getElem?_cons_succ, Option.bind_some, Option.bind_none, List.append_eq, List.cons_append, List.nil_append]
  have za := ha.sz
  have sm := right_sm hr
  obtain ⟨f1, f2, f3, f4, f5, f6, f7⟩ := right_fields hr
  have kf := few_c a ha
  rw [hf] at kf
  have kr := right_c a za
  rw [hr] at kr
  have ki := idright_c a.author za.author
  rw [f1] at ki
  have kids := ids_c a.to za.tos za.to
  rw [f2] at kids
  have kp := posting_c a.kind
  rw [posting_f (by omega)] at kp
  have zd : Sz { a with object := a.object ++ [120] } := ⟨za.author, za.target, za.group, za.text, za.tos, za.to, za.wraps⟩
  have kd := right_c { a with object := a.object ++ [120] } zd
  rw [no_object hr] at kd
  have ze : Sz { a with target := a.target ++ [120] } := ⟨za.author, by show (a.target ++ [120]).length ≤ _; have := sm.target; simp only [List.length_append, List.length_singleton]; omega, za.group, za.text, za.tos, za.to, za.wraps⟩
  have ke := right_c { a with target := a.target ++ [120] } ze
  rw [no_target hr] at ke
  have zf : Sz { a with wraps := ⟨1, 1, box0⟩ :: a.wraps } := ⟨za.author, za.target, za.group, za.text, za.tos, za.to, by show a.wraps.length + 1 ≤ _; have := sm.wraps.1; omega⟩
  have kw := right_c { a with wraps := ⟨1, 1, box0⟩ :: a.wraps } zf
  rw [no_wrap hr] at kw
  have b1 := sm.epoch
  have b2 := sm.m
  have b3 := sm.object
  have b4 := sm.target
  have b5 := sm.wraps.1
  have b6 := sm.seq
  have hsz : allSz 5 (a.wraps.map wrapV) = true := allSz_map 5 wrapV (fun _ => rfl) _
  have hq : 0 < a.seq ∧ a.prev.length = 32 := by rcases f3 with h | h; exact absurd h.2.1 (by omega); exact ⟨h.1, h.2.2⟩
  have hq1 := hq.1
  have hq2 := hq.2
  have e4 : (a.prev == []) = false := by simp only [beq_eq_false_iff_ne]; intro e; rw [e] at hq2; simp at hq2
  have hw0 := f7 (by omega) (by omega)
  clear ha hf hr f1 f2 f3 f4 f5 f6 f7 sm za zd ze zf
  refine run ?_
  refine cp small_c ?_
  refine run ?_
  refine cp kf ?_
  refine run ?_
  refine cp kr ?_
  refine run ?_
  refine cp ki ?_
  refine run ?_
  refine cp kids ?_
  refine runf @e4 ?_
  refine cp kp ?_
  refine runf (And.intro @e4 @hsz) ?_
  refine cp kd ?_
  refine run ?_
  refine cp ke ?_
  refine run ?_
  refine cp kw ?_
  refine run ?_
  exact er0
theorem actFields_U0 (a : Ac.Act) (ha : In a) (hf : few a = true) (hr : right a = true) (hk : a.kind = 19) (hs : a.scope = 0) : AC Tryd.prog 6 [actV a] [] (.bo true) [] := by
  refine AC.enter [8, 9, 11, 19, 20, 21] [] Tryd.func6 rfl (by decide) (by decide) (Nat.le_of_ble_eq_true rfl) (by kernel_rfl) ?_; simp only [eraseC, eraseO, List.map_cons, List.map_nil, List.map_toArray, List.getElem?_toArray, List.getElem?_cons_zero, List.getElem?_cons_succ, Option.bind_some, Option.bind_none, List.append_eq, List.cons_append, List.nil_append]
  have za := ha.sz
  have sm := right_sm hr
  obtain ⟨f1, f2, f3, f4, f5, f6, f7⟩ := right_fields hr
  have kf := few_c a ha
  rw [hf] at kf
  have kr := right_c a za
  rw [hr] at kr
  have ki := idright_c a.author za.author
  rw [f1] at ki
  have kids := ids_c a.to za.tos za.to
  rw [f2] at kids
  have kp := posting_c a.kind
  rw [posting_f (by omega)] at kp
  have zb : Sz { a with epoch := a.epoch + 1 } := ⟨za.author, za.target, za.group, za.text, za.tos, za.to, za.wraps⟩
  have kb := right_c { a with epoch := a.epoch + 1 } zb
  rw [no_epoch hr hs (by omega)] at kb
  have zd : Sz { a with object := a.object ++ [120] } := ⟨za.author, za.target, za.group, za.text, za.tos, za.to, za.wraps⟩
  have kd := right_c { a with object := a.object ++ [120] } zd
  rw [no_object hr] at kd
  have ze : Sz { a with target := a.target ++ [120] } := ⟨za.author, by show (a.target ++ [120]).length ≤ _; have := sm.target; simp only [List.length_append, List.length_singleton]; omega, za.group, za.text, za.tos, za.to, za.wraps⟩
  have ke := right_c { a with target := a.target ++ [120] } ze
  rw [no_target hr] at ke
  have zf : Sz { a with wraps := ⟨1, 1, box0⟩ :: a.wraps } := ⟨za.author, za.target, za.group, za.text, za.tos, za.to, by show a.wraps.length + 1 ≤ _; have := sm.wraps.1; omega⟩
  have kw := right_c { a with wraps := ⟨1, 1, box0⟩ :: a.wraps } zf
  rw [no_wrap hr] at kw
  have b1 := sm.epoch
  have b2 := sm.m
  have b3 := sm.object
  have b4 := sm.target
  have b5 := sm.wraps.1
  have b6 := sm.seq
  have hsz : allSz 5 (a.wraps.map wrapV) = true := allSz_map 5 wrapV (fun _ => rfl) _
  have hq : 0 < a.seq ∧ a.prev.length = 32 := by rcases f3 with h | h; exact absurd h.2.1 (by omega); exact ⟨h.1, h.2.2⟩
  have hq1 := hq.1
  have hq2 := hq.2
  have e4 : (a.prev == []) = false := by simp only [beq_eq_false_iff_ne]; intro e; rw [e] at hq2; simp at hq2
  have hwl := f6 (by omega)
  clear ha hf hr f1 f2 f3 f4 f5 f6 f7 sm za zd ze zf zb
  refine run ?_
  refine cp small_c ?_
  refine run ?_
  refine cp kf ?_
  refine run ?_
  refine cp kr ?_
  refine run ?_
  refine cp ki ?_
  refine run ?_
  refine cp kids ?_
  refine runf @e4 ?_
  refine cp kp ?_
  refine runf (And.intro @e4 @hsz) ?_
  refine cp kb ?_
  refine run ?_
  refine cp kd ?_
  refine run ?_
  refine cp ke ?_
  refine run ?_
  refine cp kw ?_
  refine run ?_
  exact er0
theorem actFields_U1 (a : Ac.Act) (ha : In a) (hf : few a = true) (hr : right a = true) (hk : a.kind = 19) (hs : a.scope ≠ 0) : AC Tryd.prog 6 [actV a] [] (.bo true) [] := by
  refine AC.enter [8, 9, 11, 19, 20, 21] [] Tryd.func6 rfl (by decide) (by decide) (Nat.le_of_ble_eq_true rfl) (by kernel_rfl) ?_; simp only [eraseC, eraseO, List.map_cons, List.map_nil, List.map_toArray, List.getElem?_toArray, List.getElem?_cons_zero, List.getElem?_cons_succ, Option.bind_some, Option.bind_none, List.append_eq, List.cons_append, List.nil_append]
  have za := ha.sz
  have sm := right_sm hr
  obtain ⟨f1, f2, f3, f4, f5, f6, f7⟩ := right_fields hr
  have kf := few_c a ha
  rw [hf] at kf
  have kr := right_c a za
  rw [hr] at kr
  have ki := idright_c a.author za.author
  rw [f1] at ki
  have kids := ids_c a.to za.tos za.to
  rw [f2] at kids
  have kp := posting_c a.kind
  rw [posting_f (by omega)] at kp
  have zd : Sz { a with object := a.object ++ [120] } := ⟨za.author, za.target, za.group, za.text, za.tos, za.to, za.wraps⟩
  have kd := right_c { a with object := a.object ++ [120] } zd
  rw [no_object hr] at kd
  have ze : Sz { a with target := a.target ++ [120] } := ⟨za.author, by show (a.target ++ [120]).length ≤ _; have := sm.target; simp only [List.length_append, List.length_singleton]; omega, za.group, za.text, za.tos, za.to, za.wraps⟩
  have ke := right_c { a with target := a.target ++ [120] } ze
  rw [no_target hr] at ke
  have zf : Sz { a with wraps := ⟨1, 1, box0⟩ :: a.wraps } := ⟨za.author, za.target, za.group, za.text, za.tos, za.to, by show a.wraps.length + 1 ≤ _; have := sm.wraps.1; omega⟩
  have kw := right_c { a with wraps := ⟨1, 1, box0⟩ :: a.wraps } zf
  rw [no_wrap hr] at kw
  have b1 := sm.epoch
  have b2 := sm.m
  have b3 := sm.object
  have b4 := sm.target
  have b5 := sm.wraps.1
  have b6 := sm.seq
  have hsz : allSz 5 (a.wraps.map wrapV) = true := allSz_map 5 wrapV (fun _ => rfl) _
  have hq : 0 < a.seq ∧ a.prev.length = 32 := by rcases f3 with h | h; exact absurd h.2.1 (by omega); exact ⟨h.1, h.2.2⟩
  have hq1 := hq.1
  have hq2 := hq.2
  have e4 : (a.prev == []) = false := by simp only [beq_eq_false_iff_ne]; intro e; rw [e] at hq2; simp at hq2
  have hwl := f6 (by omega)
  clear ha hf hr f1 f2 f3 f4 f5 f6 f7 sm za zd ze zf
  refine run ?_
  refine cp small_c ?_
  refine run ?_
  refine cp kf ?_
  refine run ?_
  refine cp kr ?_
  refine run ?_
  refine cp ki ?_
  refine run ?_
  refine cp kids ?_
  refine runf @e4 ?_
  refine cp kp ?_
  refine runf (And.intro @e4 @hsz) ?_
  refine cp kd ?_
  refine run ?_
  refine cp ke ?_
  refine run ?_
  refine cp kw ?_
  refine run ?_
  exact er0
theorem actFields_O10 (a : Ac.Act) (ha : In a) (hf : few a = true) (hr : right a = true) (hk : 4 ≤ a.kind ∧ a.kind ≤ 6) (hs : a.scope = 0) : AC Tryd.prog 6 [actV a] [] (.bo true) [] := by
  refine AC.enter [8, 9, 11, 19, 20, 21] [] Tryd.func6 rfl (by decide) (by decide) (Nat.le_of_ble_eq_true rfl) (by kernel_rfl) ?_; simp only [eraseC, eraseO, List.map_cons, List.map_nil, List.map_toArray, List.getElem?_toArray, List.getElem?_cons_zero, List.getElem?_cons_succ, Option.bind_some, Option.bind_none, List.append_eq, List.cons_append, List.nil_append]
  have za := ha.sz
  have sm := right_sm hr
  obtain ⟨f1, f2, f3, f4, f5, f6, f7⟩ := right_fields hr
  have kf := few_c a ha
  rw [hf] at kf
  have kr := right_c a za
  rw [hr] at kr
  have ki := idright_c a.author za.author
  rw [f1] at ki
  have kids := ids_c a.to za.tos za.to
  rw [f2] at kids
  have kp := posting_c a.kind
  rw [posting_f (by omega)] at kp
  have zc : Sz { a with m := a.m - 1 } := ⟨za.author, za.target, za.group, za.text, za.tos, za.to, za.wraps⟩
  have kc := right_c { a with m := a.m - 1 } zc
  rw [no_m hr (by omega) (by omega) (by omega)] at kc
  have zb : Sz { a with epoch := a.epoch + 1 } := ⟨za.author, za.target, za.group, za.text, za.tos, za.to, za.wraps⟩
  have kb := right_c { a with epoch := a.epoch + 1 } zb
  rw [no_epoch hr hs (by omega)] at kb
  have zd : Sz { a with object := a.object ++ [120] } := ⟨za.author, za.target, za.group, za.text, za.tos, za.to, za.wraps⟩
  have kd := right_c { a with object := a.object ++ [120] } zd
  rw [no_object hr] at kd
  have ze : Sz { a with target := a.target ++ [120] } := ⟨za.author, by show (a.target ++ [120]).length ≤ _; have := sm.target; simp only [List.length_append, List.length_singleton]; omega, za.group, za.text, za.tos, za.to, za.wraps⟩
  have ke := right_c { a with target := a.target ++ [120] } ze
  rw [no_target hr] at ke
  have zf : Sz { a with wraps := ⟨1, 1, box0⟩ :: a.wraps } := ⟨za.author, za.target, za.group, za.text, za.tos, za.to, by show a.wraps.length + 1 ≤ _; have := sm.wraps.1; omega⟩
  have kw := right_c { a with wraps := ⟨1, 1, box0⟩ :: a.wraps } zf
  rw [no_wrap hr] at kw
  have b1 := sm.epoch
  have b2 := sm.m
  have b3 := sm.object
  have b4 := sm.target
  have b5 := sm.wraps.1
  have b6 := sm.seq
  have hsz : allSz 5 (a.wraps.map wrapV) = true := allSz_map 5 wrapV (fun _ => rfl) _
  have hq : 0 < a.seq ∧ a.prev.length = 32 := by rcases f3 with h | h; exact absurd h.2.1 (by omega); exact ⟨h.1, h.2.2⟩
  have hq1 := hq.1
  have hq2 := hq.2
  have e4 : (a.prev == []) = false := by simp only [beq_eq_false_iff_ne]; intro e; rw [e] at hq2; simp at hq2
  have hw0 := f7 (by omega) (by omega)
  clear ha hf hr f1 f2 f3 f4 f5 f6 f7 sm za zd ze zf zb zc
  refine run ?_
  refine cp small_c ?_
  refine run ?_
  refine cp kf ?_
  refine run ?_
  refine cp kr ?_
  refine run ?_
  refine cp ki ?_
  refine run ?_
  refine cp kids ?_
  refine runf @e4 ?_
  refine cp kp ?_
  refine runf (And.intro @e4 @hsz) ?_
  refine cp kb ?_
  refine run ?_
  refine cp kc ?_
  refine run ?_
  refine cp kd ?_
  refine run ?_
  refine cp ke ?_
  refine run ?_
  refine cp kw ?_
  refine run ?_
  exact er0
theorem actFields_O11 (a : Ac.Act) (ha : In a) (hf : few a = true) (hr : right a = true) (hk : 4 ≤ a.kind ∧ a.kind ≤ 6) (hs : a.scope ≠ 0) : AC Tryd.prog 6 [actV a] [] (.bo true) [] := by
  refine AC.enter [8, 9, 11, 19, 20, 21] [] Tryd.func6 rfl (by decide) (by decide) (Nat.le_of_ble_eq_true rfl) (by kernel_rfl) ?_; simp only [eraseC, eraseO, List.map_cons, List.map_nil, List.map_toArray, List.getElem?_toArray, List.getElem?_cons_zero, List.getElem?_cons_succ, Option.bind_some, Option.bind_none, List.append_eq, List.cons_append, List.nil_append]
  have za := ha.sz
  have sm := right_sm hr
  obtain ⟨f1, f2, f3, f4, f5, f6, f7⟩ := right_fields hr
  have kf := few_c a ha
  rw [hf] at kf
  have kr := right_c a za
  rw [hr] at kr
  have ki := idright_c a.author za.author
  rw [f1] at ki
  have kids := ids_c a.to za.tos za.to
  rw [f2] at kids
  have kp := posting_c a.kind
  rw [posting_f (by omega)] at kp
  have zc : Sz { a with m := a.m - 1 } := ⟨za.author, za.target, za.group, za.text, za.tos, za.to, za.wraps⟩
  have kc := right_c { a with m := a.m - 1 } zc
  rw [no_m hr (by omega) (by omega) (by omega)] at kc
  have zd : Sz { a with object := a.object ++ [120] } := ⟨za.author, za.target, za.group, za.text, za.tos, za.to, za.wraps⟩
  have kd := right_c { a with object := a.object ++ [120] } zd
  rw [no_object hr] at kd
  have ze : Sz { a with target := a.target ++ [120] } := ⟨za.author, by show (a.target ++ [120]).length ≤ _; have := sm.target; simp only [List.length_append, List.length_singleton]; omega, za.group, za.text, za.tos, za.to, za.wraps⟩
  have ke := right_c { a with target := a.target ++ [120] } ze
  rw [no_target hr] at ke
  have zf : Sz { a with wraps := ⟨1, 1, box0⟩ :: a.wraps } := ⟨za.author, za.target, za.group, za.text, za.tos, za.to, by show a.wraps.length + 1 ≤ _; have := sm.wraps.1; omega⟩
  have kw := right_c { a with wraps := ⟨1, 1, box0⟩ :: a.wraps } zf
  rw [no_wrap hr] at kw
  have b1 := sm.epoch
  have b2 := sm.m
  have b3 := sm.object
  have b4 := sm.target
  have b5 := sm.wraps.1
  have b6 := sm.seq
  have hsz : allSz 5 (a.wraps.map wrapV) = true := allSz_map 5 wrapV (fun _ => rfl) _
  have hq : 0 < a.seq ∧ a.prev.length = 32 := by rcases f3 with h | h; exact absurd h.2.1 (by omega); exact ⟨h.1, h.2.2⟩
  have hq1 := hq.1
  have hq2 := hq.2
  have e4 : (a.prev == []) = false := by simp only [beq_eq_false_iff_ne]; intro e; rw [e] at hq2; simp at hq2
  have hw0 := f7 (by omega) (by omega)
  clear ha hf hr f1 f2 f3 f4 f5 f6 f7 sm za zd ze zf zc
  refine run ?_
  refine cp small_c ?_
  refine run ?_
  refine cp kf ?_
  refine run ?_
  refine cp kr ?_
  refine run ?_
  refine cp ki ?_
  refine run ?_
  refine cp kids ?_
  refine runf @e4 ?_
  refine cp kp ?_
  refine runf (And.intro @e4 @hsz) ?_
  refine cp kc ?_
  refine run ?_
  refine cp kd ?_
  refine run ?_
  refine cp ke ?_
  refine run ?_
  refine cp kw ?_
  refine run ?_
  exact er0
theorem actFields_O20 (a : Ac.Act) (ha : In a) (hf : few a = true) (hr : right a = true) (hk : 12 ≤ a.kind ∧ a.kind ≤ 15) (hs : a.scope = 0) : AC Tryd.prog 6 [actV a] [] (.bo true) [] := by
  refine AC.enter [8, 9, 11, 19, 20, 21] [] Tryd.func6 rfl (by decide) (by decide) (Nat.le_of_ble_eq_true rfl) (by kernel_rfl) ?_; simp only [eraseC, eraseO, List.map_cons, List.map_nil, List.map_toArray, List.getElem?_toArray, List.getElem?_cons_zero, List.getElem?_cons_succ, Option.bind_some, Option.bind_none, List.append_eq, List.cons_append, List.nil_append]
  have za := ha.sz
  have sm := right_sm hr
  obtain ⟨f1, f2, f3, f4, f5, f6, f7⟩ := right_fields hr
  have kf := few_c a ha
  rw [hf] at kf
  have kr := right_c a za
  rw [hr] at kr
  have ki := idright_c a.author za.author
  rw [f1] at ki
  have kids := ids_c a.to za.tos za.to
  rw [f2] at kids
  have kp := posting_c a.kind
  rw [posting_f (by omega)] at kp
  have zc : Sz { a with m := a.m - 1 } := ⟨za.author, za.target, za.group, za.text, za.tos, za.to, za.wraps⟩
  have kc := right_c { a with m := a.m - 1 } zc
  rw [no_m hr (by omega) (by omega) (by omega)] at kc
  have zb : Sz { a with epoch := a.epoch + 1 } := ⟨za.author, za.target, za.group, za.text, za.tos, za.to, za.wraps⟩
  have kb := right_c { a with epoch := a.epoch + 1 } zb
  rw [no_epoch hr hs (by omega)] at kb
  have zd : Sz { a with object := a.object ++ [120] } := ⟨za.author, za.target, za.group, za.text, za.tos, za.to, za.wraps⟩
  have kd := right_c { a with object := a.object ++ [120] } zd
  rw [no_object hr] at kd
  have ze : Sz { a with target := a.target ++ [120] } := ⟨za.author, by show (a.target ++ [120]).length ≤ _; have := sm.target; simp only [List.length_append, List.length_singleton]; omega, za.group, za.text, za.tos, za.to, za.wraps⟩
  have ke := right_c { a with target := a.target ++ [120] } ze
  rw [no_target hr] at ke
  have zf : Sz { a with wraps := ⟨1, 1, box0⟩ :: a.wraps } := ⟨za.author, za.target, za.group, za.text, za.tos, za.to, by show a.wraps.length + 1 ≤ _; have := sm.wraps.1; omega⟩
  have kw := right_c { a with wraps := ⟨1, 1, box0⟩ :: a.wraps } zf
  rw [no_wrap hr] at kw
  have b1 := sm.epoch
  have b2 := sm.m
  have b3 := sm.object
  have b4 := sm.target
  have b5 := sm.wraps.1
  have b6 := sm.seq
  have hsz : allSz 5 (a.wraps.map wrapV) = true := allSz_map 5 wrapV (fun _ => rfl) _
  have hq : 0 < a.seq ∧ a.prev.length = 32 := by rcases f3 with h | h; exact absurd h.2.1 (by omega); exact ⟨h.1, h.2.2⟩
  have hq1 := hq.1
  have hq2 := hq.2
  have e4 : (a.prev == []) = false := by simp only [beq_eq_false_iff_ne]; intro e; rw [e] at hq2; simp at hq2
  have hw0 := f7 (by omega) (by omega)
  clear ha hf hr f1 f2 f3 f4 f5 f6 f7 sm za zd ze zf zb zc
  refine run ?_
  refine cp small_c ?_
  refine run ?_
  refine cp kf ?_
  refine run ?_
  refine cp kr ?_
  refine run ?_
  refine cp ki ?_
  refine run ?_
  refine cp kids ?_
  refine runf @e4 ?_
  refine cp kp ?_
  refine runf (And.intro @e4 @hsz) ?_
  refine cp kb ?_
  refine run ?_
  refine cp kc ?_
  refine run ?_
  refine cp kd ?_
  refine run ?_
  refine cp ke ?_
  refine run ?_
  refine cp kw ?_
  refine run ?_
  exact er0
theorem actFields_O21 (a : Ac.Act) (ha : In a) (hf : few a = true) (hr : right a = true) (hk : 12 ≤ a.kind ∧ a.kind ≤ 15) (hs : a.scope ≠ 0) : AC Tryd.prog 6 [actV a] [] (.bo true) [] := by
  refine AC.enter [8, 9, 11, 19, 20, 21] [] Tryd.func6 rfl (by decide) (by decide) (Nat.le_of_ble_eq_true rfl) (by kernel_rfl) ?_; simp only [eraseC, eraseO, List.map_cons, List.map_nil, List.map_toArray, List.getElem?_toArray, List.getElem?_cons_zero, List.getElem?_cons_succ, Option.bind_some, Option.bind_none, List.append_eq, List.cons_append, List.nil_append]
  have za := ha.sz
  have sm := right_sm hr
  obtain ⟨f1, f2, f3, f4, f5, f6, f7⟩ := right_fields hr
  have kf := few_c a ha
  rw [hf] at kf
  have kr := right_c a za
  rw [hr] at kr
  have ki := idright_c a.author za.author
  rw [f1] at ki
  have kids := ids_c a.to za.tos za.to
  rw [f2] at kids
  have kp := posting_c a.kind
  rw [posting_f (by omega)] at kp
  have zc : Sz { a with m := a.m - 1 } := ⟨za.author, za.target, za.group, za.text, za.tos, za.to, za.wraps⟩
  have kc := right_c { a with m := a.m - 1 } zc
  rw [no_m hr (by omega) (by omega) (by omega)] at kc
  have zd : Sz { a with object := a.object ++ [120] } := ⟨za.author, za.target, za.group, za.text, za.tos, za.to, za.wraps⟩
  have kd := right_c { a with object := a.object ++ [120] } zd
  rw [no_object hr] at kd
  have ze : Sz { a with target := a.target ++ [120] } := ⟨za.author, by show (a.target ++ [120]).length ≤ _; have := sm.target; simp only [List.length_append, List.length_singleton]; omega, za.group, za.text, za.tos, za.to, za.wraps⟩
  have ke := right_c { a with target := a.target ++ [120] } ze
  rw [no_target hr] at ke
  have zf : Sz { a with wraps := ⟨1, 1, box0⟩ :: a.wraps } := ⟨za.author, za.target, za.group, za.text, za.tos, za.to, by show a.wraps.length + 1 ≤ _; have := sm.wraps.1; omega⟩
  have kw := right_c { a with wraps := ⟨1, 1, box0⟩ :: a.wraps } zf
  rw [no_wrap hr] at kw
  have b1 := sm.epoch
  have b2 := sm.m
  have b3 := sm.object
  have b4 := sm.target
  have b5 := sm.wraps.1
  have b6 := sm.seq
  have hsz : allSz 5 (a.wraps.map wrapV) = true := allSz_map 5 wrapV (fun _ => rfl) _
  have hq : 0 < a.seq ∧ a.prev.length = 32 := by rcases f3 with h | h; exact absurd h.2.1 (by omega); exact ⟨h.1, h.2.2⟩
  have hq1 := hq.1
  have hq2 := hq.2
  have e4 : (a.prev == []) = false := by simp only [beq_eq_false_iff_ne]; intro e; rw [e] at hq2; simp at hq2
  have hw0 := f7 (by omega) (by omega)
  clear ha hf hr f1 f2 f3 f4 f5 f6 f7 sm za zd ze zf zc
  refine run ?_
  refine cp small_c ?_
  refine run ?_
  refine cp kf ?_
  refine run ?_
  refine cp kr ?_
  refine run ?_
  refine cp ki ?_
  refine run ?_
  refine cp kids ?_
  refine runf @e4 ?_
  refine cp kp ?_
  refine runf (And.intro @e4 @hsz) ?_
  refine cp kc ?_
  refine run ?_
  refine cp kd ?_
  refine run ?_
  refine cp ke ?_
  refine run ?_
  refine cp kw ?_
  refine run ?_
  exact er0
theorem actFields_O30 (a : Ac.Act) (ha : In a) (hf : few a = true) (hr : right a = true) (hk : a.kind = 17) (hs : a.scope = 0) : AC Tryd.prog 6 [actV a] [] (.bo true) [] := by
  refine AC.enter [8, 9, 11, 19, 20, 21] [] Tryd.func6 rfl (by decide) (by decide) (Nat.le_of_ble_eq_true rfl) (by kernel_rfl) ?_; simp only [eraseC, eraseO, List.map_cons, List.map_nil, List.map_toArray, List.getElem?_toArray, List.getElem?_cons_zero, List.getElem?_cons_succ, Option.bind_some, Option.bind_none, List.append_eq, List.cons_append, List.nil_append]
  have za := ha.sz
  have sm := right_sm hr
  obtain ⟨f1, f2, f3, f4, f5, f6, f7⟩ := right_fields hr
  have kf := few_c a ha
  rw [hf] at kf
  have kr := right_c a za
  rw [hr] at kr
  have ki := idright_c a.author za.author
  rw [f1] at ki
  have kids := ids_c a.to za.tos za.to
  rw [f2] at kids
  have kp := posting_c a.kind
  rw [posting_f (by omega)] at kp
  have zc : Sz { a with m := a.m - 1 } := ⟨za.author, za.target, za.group, za.text, za.tos, za.to, za.wraps⟩
  have kc := right_c { a with m := a.m - 1 } zc
  rw [no_m hr (by omega) (by omega) (by omega)] at kc
  have zb : Sz { a with epoch := a.epoch + 1 } := ⟨za.author, za.target, za.group, za.text, za.tos, za.to, za.wraps⟩
  have kb := right_c { a with epoch := a.epoch + 1 } zb
  rw [no_epoch hr hs (by omega)] at kb
  have zd : Sz { a with object := a.object ++ [120] } := ⟨za.author, za.target, za.group, za.text, za.tos, za.to, za.wraps⟩
  have kd := right_c { a with object := a.object ++ [120] } zd
  rw [no_object hr] at kd
  have ze : Sz { a with target := a.target ++ [120] } := ⟨za.author, by show (a.target ++ [120]).length ≤ _; have := sm.target; simp only [List.length_append, List.length_singleton]; omega, za.group, za.text, za.tos, za.to, za.wraps⟩
  have ke := right_c { a with target := a.target ++ [120] } ze
  rw [no_target hr] at ke
  have zf : Sz { a with wraps := ⟨1, 1, box0⟩ :: a.wraps } := ⟨za.author, za.target, za.group, za.text, za.tos, za.to, by show a.wraps.length + 1 ≤ _; have := sm.wraps.1; omega⟩
  have kw := right_c { a with wraps := ⟨1, 1, box0⟩ :: a.wraps } zf
  rw [no_wrap hr] at kw
  have b1 := sm.epoch
  have b2 := sm.m
  have b3 := sm.object
  have b4 := sm.target
  have b5 := sm.wraps.1
  have b6 := sm.seq
  have hsz : allSz 5 (a.wraps.map wrapV) = true := allSz_map 5 wrapV (fun _ => rfl) _
  have hq : 0 < a.seq ∧ a.prev.length = 32 := by rcases f3 with h | h; exact absurd h.2.1 (by omega); exact ⟨h.1, h.2.2⟩
  have hq1 := hq.1
  have hq2 := hq.2
  have e4 : (a.prev == []) = false := by simp only [beq_eq_false_iff_ne]; intro e; rw [e] at hq2; simp at hq2
  have hw0 := f7 (by omega) (by omega)
  clear ha hf hr f1 f2 f3 f4 f5 f6 f7 sm za zd ze zf zb zc
  refine run ?_
  refine cp small_c ?_
  refine run ?_
  refine cp kf ?_
  refine run ?_
  refine cp kr ?_
  refine run ?_
  refine cp ki ?_
  refine run ?_
  refine cp kids ?_
  refine runf @e4 ?_
  refine cp kp ?_
  refine runf (And.intro @e4 @hsz) ?_
  refine cp kb ?_
  refine run ?_
  refine cp kc ?_
  refine run ?_
  refine cp kd ?_
  refine run ?_
  refine cp ke ?_
  refine run ?_
  refine cp kw ?_
  refine run ?_
  exact er0
theorem actFields_O31 (a : Ac.Act) (ha : In a) (hf : few a = true) (hr : right a = true) (hk : a.kind = 17) (hs : a.scope ≠ 0) : AC Tryd.prog 6 [actV a] [] (.bo true) [] := by
  refine AC.enter [8, 9, 11, 19, 20, 21] [] Tryd.func6 rfl (by decide) (by decide) (Nat.le_of_ble_eq_true rfl) (by kernel_rfl) ?_; simp only [eraseC, eraseO, List.map_cons, List.map_nil, List.map_toArray, List.getElem?_toArray, List.getElem?_cons_zero, List.getElem?_cons_succ, Option.bind_some, Option.bind_none, List.append_eq, List.cons_append, List.nil_append]
  have za := ha.sz
  have sm := right_sm hr
  obtain ⟨f1, f2, f3, f4, f5, f6, f7⟩ := right_fields hr
  have kf := few_c a ha
  rw [hf] at kf
  have kr := right_c a za
  rw [hr] at kr
  have ki := idright_c a.author za.author
  rw [f1] at ki
  have kids := ids_c a.to za.tos za.to
  rw [f2] at kids
  have kp := posting_c a.kind
  rw [posting_f (by omega)] at kp
  have zc : Sz { a with m := a.m - 1 } := ⟨za.author, za.target, za.group, za.text, za.tos, za.to, za.wraps⟩
  have kc := right_c { a with m := a.m - 1 } zc
  rw [no_m hr (by omega) (by omega) (by omega)] at kc
  have zd : Sz { a with object := a.object ++ [120] } := ⟨za.author, za.target, za.group, za.text, za.tos, za.to, za.wraps⟩
  have kd := right_c { a with object := a.object ++ [120] } zd
  rw [no_object hr] at kd
  have ze : Sz { a with target := a.target ++ [120] } := ⟨za.author, by show (a.target ++ [120]).length ≤ _; have := sm.target; simp only [List.length_append, List.length_singleton]; omega, za.group, za.text, za.tos, za.to, za.wraps⟩
  have ke := right_c { a with target := a.target ++ [120] } ze
  rw [no_target hr] at ke
  have zf : Sz { a with wraps := ⟨1, 1, box0⟩ :: a.wraps } := ⟨za.author, za.target, za.group, za.text, za.tos, za.to, by show a.wraps.length + 1 ≤ _; have := sm.wraps.1; omega⟩
  have kw := right_c { a with wraps := ⟨1, 1, box0⟩ :: a.wraps } zf
  rw [no_wrap hr] at kw
  have b1 := sm.epoch
  have b2 := sm.m
  have b3 := sm.object
  have b4 := sm.target
  have b5 := sm.wraps.1
  have b6 := sm.seq
  have hsz : allSz 5 (a.wraps.map wrapV) = true := allSz_map 5 wrapV (fun _ => rfl) _
  have hq : 0 < a.seq ∧ a.prev.length = 32 := by rcases f3 with h | h; exact absurd h.2.1 (by omega); exact ⟨h.1, h.2.2⟩
  have hq1 := hq.1
  have hq2 := hq.2
  have e4 : (a.prev == []) = false := by simp only [beq_eq_false_iff_ne]; intro e; rw [e] at hq2; simp at hq2
  have hw0 := f7 (by omega) (by omega)
  clear ha hf hr f1 f2 f3 f4 f5 f6 f7 sm za zd ze zf zc
  refine run ?_
  refine cp small_c ?_
  refine run ?_
  refine cp kf ?_
  refine run ?_
  refine cp kr ?_
  refine run ?_
  refine cp ki ?_
  refine run ?_
  refine cp kids ?_
  refine runf @e4 ?_
  refine cp kp ?_
  refine runf (And.intro @e4 @hsz) ?_
  refine cp kc ?_
  refine run ?_
  refine cp kd ?_
  refine run ?_
  refine cp ke ?_
  refine run ?_
  refine cp kw ?_
  refine run ?_
  exact er0
theorem actFields_O40 (a : Ac.Act) (ha : In a) (hf : few a = true) (hr : right a = true) (hk : 20 ≤ a.kind) (hs : a.scope = 0) : AC Tryd.prog 6 [actV a] [] (.bo true) [] := by
  refine AC.enter [8, 9, 11, 19, 20, 21] [] Tryd.func6 rfl (by decide) (by decide) (Nat.le_of_ble_eq_true rfl) (by kernel_rfl) ?_; simp only [eraseC, eraseO, List.map_cons, List.map_nil, List.map_toArray, List.getElem?_toArray, List.getElem?_cons_zero, List.getElem?_cons_succ, Option.bind_some, Option.bind_none, List.append_eq, List.cons_append, List.nil_append]
  have za := ha.sz
  have sm := right_sm hr
  obtain ⟨f1, f2, f3, f4, f5, f6, f7⟩ := right_fields hr
  have kf := few_c a ha
  rw [hf] at kf
  have kr := right_c a za
  rw [hr] at kr
  have ki := idright_c a.author za.author
  rw [f1] at ki
  have kids := ids_c a.to za.tos za.to
  rw [f2] at kids
  have kp := posting_c a.kind
  rw [posting_f (by omega)] at kp
  have zc : Sz { a with m := a.m - 1 } := ⟨za.author, za.target, za.group, za.text, za.tos, za.to, za.wraps⟩
  have kc := right_c { a with m := a.m - 1 } zc
  rw [no_m hr (by omega) (by omega) (by omega)] at kc
  have zb : Sz { a with epoch := a.epoch + 1 } := ⟨za.author, za.target, za.group, za.text, za.tos, za.to, za.wraps⟩
  have kb := right_c { a with epoch := a.epoch + 1 } zb
  rw [no_epoch hr hs (by omega)] at kb
  have zd : Sz { a with object := a.object ++ [120] } := ⟨za.author, za.target, za.group, za.text, za.tos, za.to, za.wraps⟩
  have kd := right_c { a with object := a.object ++ [120] } zd
  rw [no_object hr] at kd
  have ze : Sz { a with target := a.target ++ [120] } := ⟨za.author, by show (a.target ++ [120]).length ≤ _; have := sm.target; simp only [List.length_append, List.length_singleton]; omega, za.group, za.text, za.tos, za.to, za.wraps⟩
  have ke := right_c { a with target := a.target ++ [120] } ze
  rw [no_target hr] at ke
  have zf : Sz { a with wraps := ⟨1, 1, box0⟩ :: a.wraps } := ⟨za.author, za.target, za.group, za.text, za.tos, za.to, by show a.wraps.length + 1 ≤ _; have := sm.wraps.1; omega⟩
  have kw := right_c { a with wraps := ⟨1, 1, box0⟩ :: a.wraps } zf
  rw [no_wrap hr] at kw
  have b1 := sm.epoch
  have b2 := sm.m
  have b3 := sm.object
  have b4 := sm.target
  have b5 := sm.wraps.1
  have b6 := sm.seq
  have hsz : allSz 5 (a.wraps.map wrapV) = true := allSz_map 5 wrapV (fun _ => rfl) _
  have hq : 0 < a.seq ∧ a.prev.length = 32 := by rcases f3 with h | h; exact absurd h.2.1 (by omega); exact ⟨h.1, h.2.2⟩
  have hq1 := hq.1
  have hq2 := hq.2
  have e4 : (a.prev == []) = false := by simp only [beq_eq_false_iff_ne]; intro e; rw [e] at hq2; simp at hq2
  have hw0 := f7 (by omega) (by omega)
  clear ha hf hr f1 f2 f3 f4 f5 f6 f7 sm za zd ze zf zb zc
  refine run ?_
  refine cp small_c ?_
  refine run ?_
  refine cp kf ?_
  refine run ?_
  refine cp kr ?_
  refine run ?_
  refine cp ki ?_
  refine run ?_
  refine cp kids ?_
  refine runf @e4 ?_
  refine cp kp ?_
  refine runf (And.intro @e4 @hsz) ?_
  refine cp kb ?_
  refine run ?_
  refine cp kc ?_
  refine run ?_
  refine cp kd ?_
  refine run ?_
  refine cp ke ?_
  refine run ?_
  refine cp kw ?_
  refine run ?_
  exact er0
theorem actFields_O41 (a : Ac.Act) (ha : In a) (hf : few a = true) (hr : right a = true) (hk : 20 ≤ a.kind) (hs : a.scope ≠ 0) : AC Tryd.prog 6 [actV a] [] (.bo true) [] := by
  refine AC.enter [8, 9, 11, 19, 20, 21] [] Tryd.func6 rfl (by decide) (by decide) (Nat.le_of_ble_eq_true rfl) (by kernel_rfl) ?_; simp only [eraseC, eraseO, List.map_cons, List.map_nil, List.map_toArray, List.getElem?_toArray, List.getElem?_cons_zero, List.getElem?_cons_succ, Option.bind_some, Option.bind_none, List.append_eq, List.cons_append, List.nil_append]
  have za := ha.sz
  have sm := right_sm hr
  obtain ⟨f1, f2, f3, f4, f5, f6, f7⟩ := right_fields hr
  have kf := few_c a ha
  rw [hf] at kf
  have kr := right_c a za
  rw [hr] at kr
  have ki := idright_c a.author za.author
  rw [f1] at ki
  have kids := ids_c a.to za.tos za.to
  rw [f2] at kids
  have kp := posting_c a.kind
  rw [posting_f (by omega)] at kp
  have zc : Sz { a with m := a.m - 1 } := ⟨za.author, za.target, za.group, za.text, za.tos, za.to, za.wraps⟩
  have kc := right_c { a with m := a.m - 1 } zc
  rw [no_m hr (by omega) (by omega) (by omega)] at kc
  have zd : Sz { a with object := a.object ++ [120] } := ⟨za.author, za.target, za.group, za.text, za.tos, za.to, za.wraps⟩
  have kd := right_c { a with object := a.object ++ [120] } zd
  rw [no_object hr] at kd
  have ze : Sz { a with target := a.target ++ [120] } := ⟨za.author, by show (a.target ++ [120]).length ≤ _; have := sm.target; simp only [List.length_append, List.length_singleton]; omega, za.group, za.text, za.tos, za.to, za.wraps⟩
  have ke := right_c { a with target := a.target ++ [120] } ze
  rw [no_target hr] at ke
  have zf : Sz { a with wraps := ⟨1, 1, box0⟩ :: a.wraps } := ⟨za.author, za.target, za.group, za.text, za.tos, za.to, by show a.wraps.length + 1 ≤ _; have := sm.wraps.1; omega⟩
  have kw := right_c { a with wraps := ⟨1, 1, box0⟩ :: a.wraps } zf
  rw [no_wrap hr] at kw
  have b1 := sm.epoch
  have b2 := sm.m
  have b3 := sm.object
  have b4 := sm.target
  have b5 := sm.wraps.1
  have b6 := sm.seq
  have hsz : allSz 5 (a.wraps.map wrapV) = true := allSz_map 5 wrapV (fun _ => rfl) _
  have hq : 0 < a.seq ∧ a.prev.length = 32 := by rcases f3 with h | h; exact absurd h.2.1 (by omega); exact ⟨h.1, h.2.2⟩
  have hq1 := hq.1
  have hq2 := hq.2
  have e4 : (a.prev == []) = false := by simp only [beq_eq_false_iff_ne]; intro e; rw [e] at hq2; simp at hq2
  have hw0 := f7 (by omega) (by omega)
  clear ha hf hr f1 f2 f3 f4 f5 f6 f7 sm za zd ze zf zc
  refine run ?_
  refine cp small_c ?_
  refine run ?_
  refine cp kf ?_
  refine run ?_
  refine cp kr ?_
  refine run ?_
  refine cp ki ?_
  refine run ?_
  refine cp kids ?_
  refine runf @e4 ?_
  refine cp kp ?_
  refine runf (And.intro @e4 @hsz) ?_
  refine cp kc ?_
  refine run ?_
  refine cp kd ?_
  refine run ?_
  refine cp ke ?_
  refine run ?_
  refine cp kw ?_
  refine run ?_
  exact er0
theorem actFields_c (a : Ac.Act) (ha : In a) : AC Tryd.prog 6 [actV a] [] (.bo true) [] := by
  by_cases hf : few a = true
  rotate_left
  · refine AC.enter [8, 9, 11, 19, 20, 21] [] Tryd.func6 rfl (by decide) (by decide) (Nat.le_of_ble_eq_true rfl) (by kernel_rfl) ?_; simp only [eraseC, eraseO, List.map_cons, List.map_nil, List.map_toArray, List.getElem?_toArray, List.getElem?_cons_zero, List.getElem?_cons_succ, Option.bind_some, Option.bind_none, List.append_eq, List.cons_append, List.nil_append]
    have kf := few_c a ha
    rw [show few a = false by simpa using hf] at kf
    refine run ?_
    refine cp small_c ?_
    refine run ?_
    refine cp kf ?_
    refine run ?_
    exact er0
  by_cases hr : right a = true
  rotate_left
  · refine AC.enter [8, 9, 11, 19, 20, 21] [] Tryd.func6 rfl (by decide) (by decide) (Nat.le_of_ble_eq_true rfl) (by kernel_rfl) ?_; simp only [eraseC, eraseO, List.map_cons, List.map_nil, List.map_toArray, List.getElem?_toArray, List.getElem?_cons_zero, List.getElem?_cons_succ, Option.bind_some, Option.bind_none, List.append_eq, List.cons_append, List.nil_append]
    have kf := few_c a ha
    rw [hf] at kf
    have kr := right_c a ha.sz
    rw [show right a = false by simpa using hr] at kr
    refine run ?_
    refine cp small_c ?_
    refine run ?_
    refine cp kf ?_
    refine run ?_
    refine cp kr ?_
    refine run ?_
    exact er0
  have hk := (right_sm hr).kind
  by_cases kB : a.kind = 0
  · by_cases hs : a.scope = 0
    · exact actFields_B0 a ha hf hr kB hs
    · exact actFields_B1 a ha hf hr kB hs
  by_cases kP : 1 ≤ a.kind ∧ a.kind ≤ 3
  · by_cases hs : a.scope = 0
    · exact actFields_P0 a ha hf hr kP hs
    · exact actFields_P1 a ha hf hr kP hs
  by_cases kF : 7 ≤ a.kind ∧ a.kind ≤ 11
  · by_cases hs : a.scope = 0
    · exact actFields_F0 a ha hf hr kF hs
    · exact actFields_F1 a ha hf hr kF hs
  by_cases kG : a.kind = 16
  · by_cases hs : a.scope = 0
    · exact actFields_G0 a ha hf hr kG hs
    · exact actFields_G1 a ha hf hr kG hs
  by_cases kM : a.kind = 18
  · by_cases hs : a.scope = 0
    · exact actFields_M0 a ha hf hr kM hs
    · exact actFields_M1 a ha hf hr kM hs
  by_cases kU : a.kind = 19
  · by_cases hs : a.scope = 0
    · exact actFields_U0 a ha hf hr kU hs
    · exact actFields_U1 a ha hf hr kU hs
  by_cases kO1 : 4 ≤ a.kind ∧ a.kind ≤ 6
  · by_cases hs : a.scope = 0
    · exact actFields_O10 a ha hf hr kO1 hs
    · exact actFields_O11 a ha hf hr kO1 hs
  by_cases kO2 : 12 ≤ a.kind ∧ a.kind ≤ 15
  · by_cases hs : a.scope = 0
    · exact actFields_O20 a ha hf hr kO2 hs
    · exact actFields_O21 a ha hf hr kO2 hs
  by_cases kO3 : a.kind = 17
  · by_cases hs : a.scope = 0
    · exact actFields_O30 a ha hf hr kO3 hs
    · exact actFields_O31 a ha hf hr kO3 hs
  by_cases kO4 : 20 ≤ a.kind
  · by_cases hs : a.scope = 0
    · exact actFields_O40 a ha hf hr kO4 hs
    · exact actFields_O41 a ha hf hr kO4 hs
  exact absurd hk.1 (by omega)
theorem actAudience_c (a : Ac.Act) (sc : Int) (g t : By) (ha : In a) (hsc : -9223372036854775808 ≤ sc ∧ sc ≤ 9223372036854775807) (hg : g.length ≤ 140737488351232) (ht : t.length ≤ 140737488351232) : AC Tryd.prog 7 [actV a, .it .i64 sc, .st g, .st t] [] (.bo true) [] := by
  refine AC.enter [8, 9, 11, 22, 21] [] Tryd.func7 rfl (by decide) (by decide) (Nat.le_of_ble_eq_true rfl) (by kernel_rfl) ?_; simp only [eraseC, eraseO, List.map_cons, List.map_nil, List.map_toArray, List.getElem?_toArray, List.getElem?_cons_zero, List.getElem?_cons_succ, Option.bind_some, Option.bind_none, List.append_eq, List.cons_append, List.nil_append]
  have za := ha.sz
  have kf := few_c a ha
  have kr := right_c a za
  have kp := posting_c a.kind
  refine run ?_
  refine cp small_c ?_
  refine run ?_
  refine cp kf ?_
  by_cases hf : few a = true
  rotate_left
  · rw [show few a = false by simpa using hf]
    refine run ?_
    exact er0
  rw [hf]
  refine run ?_
  refine cp kr ?_
  by_cases hr : right a = true
  rotate_left
  · rw [show right a = false by simpa using hr]
    refine run ?_
    exact er0
  rw [hr]
  refine run ?_
  refine cp kp ?_
  by_cases hk : 1 ≤ a.kind ∧ a.kind ≤ 3
  rotate_left
  · rw [posting_f hk]
    refine run ?_
    exact er0
  rw [posting_t hk]
  by_cases h600 : t.length ≤ 600
  rotate_left
  · refine run ?_
    exact er0
  by_cases h100 : g.length ≤ 100
  rotate_left
  · refine run ?_
    exact er0
  have zb : Sz { a with scope := 0, group := [], epoch := 0, text := t, body := box0 } := ⟨za.author, za.target, Nat.zero_le _, by show t.length ≤ _; omega, za.tos, za.to, za.wraps⟩
  have zc : Sz { a with scope := sc, group := g } := ⟨za.author, za.target, by show g.length ≤ _; omega, za.text, za.tos, za.to, za.wraps⟩
  have kb : AC _ _ [actV { a with scope := 0, group := [], epoch := 0, text := t, body := box0 }] [] _ [] := right_c { a with scope := 0, group := [], epoch := 0, text := t, body := box0 } zb
  rw [public_right hr hk.1 hk.2 t, short_eq] at kb
  have kc : AC _ _ [actV { a with scope := sc, group := g }] [] _ [] := right_c { a with scope := sc, group := g } zc
  have hsco := scope_facts hr hk.1 hk.2 sc g
  have hb : ∀ b : Bool, (b == b) = true := fun b => by simp
  generalize hd : decide ((t.length : Int) ≤ 500) = d at *
  refine runf @hd ?_
  refine cp kb ?_
  refine runf (And.intro @hd @hb) ?_
  refine cp kc ?_
  by_cases hc : right { a with scope := sc, group := g } = true
  rotate_left
  · have hc' : right { a with scope := sc, group := g } = false := by simpa using hc
    rw [hc'] at kc ⊢
    refine run ?_
    refine cp kc ?_
    refine run ?_
    refine cp kc ?_
    refine run ?_
    refine cp kc ?_
    refine run ?_
    exact er0
  obtain ⟨h1, h2, h3, h4⟩ := hsco hc
  rw [hc] at kc
  rw [hc]
  have e1 : (sc == 0) = (a.scope == 0) := by rw [Bool.eq_iff_iff]; simp only [beq_iff_eq]; exact h4
  by_cases hg0 : g = []
  · have hsc2 : sc ≠ 2 := fun e => (h2.1 e) hg0
    have e2 : (g == []) = true := by rw [hg0]; rfl
    refine runf @e2 ?_
    refine cp kc ?_
    refine runf @e2 ?_
    refine cp kc ?_
    refine runf @e2 ?_
    refine cp kc ?_
    refine runf (And.intro @e1 @hb) ?_
    exact er0
  · have hsc2 : sc = 2 := h2.2 hg0
    have e2 : (g == []) = false := by simpa using hg0
    have kn := name_c g (by omega)
    rw [h3 hg0] at kn
    refine runf @e2 ?_
    refine cp kc ?_
    refine runf @e2 ?_
    refine cp kc ?_
    refine runf @e2 ?_
    refine cp kn ?_
    refine runf @e2 ?_
    refine cp kc ?_
    refine runf (And.intro @e1 @hb) ?_
    exact er0
end Go.Proofs.YtgbmjknnadmcaaaDoor.Pe
