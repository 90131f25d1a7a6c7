/- The walk of the reference of package merkle on plain values: Split, Leaf, Root, Path, Inputs, Same. -/
import Derived.Test.YthbpbkbjdfcnjaaGreatDoorMkW
set_option linter.unusedSectionVars false
set_option linter.unusedVariables false
set_option linter.unusedSimpArgs false
namespace Go.Proofs.YthbpbkbjdfcnjaaGreatDoor.Pe
open Go Sm Mk
set_option maxRecDepth 100000
theorem rsplit_c (n : Nat) (h : 2 ≤ n) (h' : n < 9223372036854775808) : AC Tryz.prog 87 [.it .i64 n] [] (.it .i64 (sp n)) [] := by
 refine AC.enter [] [] Tryz.func87 rfl (by decide) (by decide) (Nat.le_of_ble_eq_true rfl) (by kernel_rfl) ?_; simp only [eraseC, eraseO, List.map_cons, List.map_nil, List.map_toArray, List.getElem?_toArray, List.getElem?_cons_zero, List.getElem?_cons_succ, Option.bind_some, Option.bind_none, List.append_eq, List.cons_append, List.nil_append]
 refine run ?_
 refine loop_mk (fun m e S => S = [] ∧ e 0 = .it .i64 n ∧ ∃ j, e 3 = .it .i64 ((2 ^ j : Nat) : Int) ∧ 2 ^ j < n ∧ m = n - 2 ^ j) (n - 1) ⟨rfl, (by first | rfl | (simp only [↓upd_apply, ↓put_some, ↓reduceIte, Nat.reduceEqDiff, ↓argEnv_zero, ↓argEnv_succ, *]; done)), 0, (by first | rfl | (simp only [↓upd_apply, ↓put_some, ↓reduceIte, Nat.reduceEqDiff, ↓argEnv_zero, ↓argEnv_succ, *]; done)), by omega, rfl⟩ ?_
 rintro m e S ⟨rfl, h0, j, h3, hj, rfl⟩
 generalize hk : 2 ^ j = k at *
 have hw : IntKind.i64.wrap ((n : Int) - (k : Int)) = (n : Int) - (k : Int) := wrap64 (by omega) (by omega)
 refine runf (an @h0 (an @h3 @hw)) ?_
 refine iteP_mk (fun hc => ?_) (fun hc => ?_)
 ·have hlt : k < n - k := by simp at hc; omega
  have hw2 : IntKind.i64.wrap (2 * (k : Int)) = 2 * (k : Int) := wrap64 (by omega) (by omega)
  refine runf (an @h0 (an @h3 @hw2)) ?_
  exact round_mk (n - 2 * k) (by have := Nat.pow_pos (n := j) (show 0 < 2 by omega); omega) ⟨rfl, (by first | rfl | (simp only [↓upd_apply, ↓put_some, ↓reduceIte, Nat.reduceEqDiff, ↓argEnv_zero, ↓argEnv_succ, *]; done)), j + 1, by rw [Nat.pow_succ, hk, Nat.mul_comm]; exact (by first | rfl | (simp only [↓upd_apply, ↓put_some, ↓reduceIte, Nat.reduceEqDiff, ↓argEnv_zero, ↓argEnv_succ, *]; done)), by rw [Nat.pow_succ, hk]; omega, by rw [Nat.pow_succ, hk, Nat.mul_comm]⟩
 ·have hge : ¬ k < n - k := by simp at hc; omega
  refine runf (an @h0 @h3) ?_
  have e : sp n = k := by rw [← hk]; exact sp_of (by omega) (by rw [Nat.pow_succ]; omega)
  rw [e]
  exact ends_ret0 (by rfl) (by rfl) (by rfl)
theorem rleaf_c (l : List UInt8) (h : l.length ≤ 1000000) : AC Tryz.prog 117 [.st l] [] (.st (leaf l)) [] := by
 refine AC.enter [92] [] Tryz.func117 rfl (by decide) (by decide) (Nat.le_of_ble_eq_true rfl) (by kernel_rfl) ?_; simp only [eraseC, eraseO, List.map_cons, List.map_nil, List.map_toArray, List.getElem?_toArray, List.getElem?_cons_zero, List.getElem?_cons_succ, Option.bind_some, Option.bind_none, List.append_eq, List.cons_append, List.nil_append]
 refine run ?_
 refine call_pure (rsha_c (0 :: l) (by simp; omega)) (by rfl) (by rfl) (by rfl) ?_
 refine run ?_
 exact ends_ret0 (by rfl) (by rfl) (by rfl)
theorem rpre_c (l r : List UInt8) (h : l.length ≤ 1000000) (h' : r.length ≤ 1000000) : AC Tryz.prog 89 [.st l, .st r] [] (.st (pre l r)) [] := by
 refine AC.enter [] [] Tryz.func89 rfl (by decide) (by decide) (Nat.le_of_ble_eq_true rfl) (by kernel_rfl) ?_; simp only [eraseC, eraseO, List.map_cons, List.map_nil, List.map_toArray, List.getElem?_toArray, List.getElem?_cons_zero, List.getElem?_cons_succ, Option.bind_some, Option.bind_none, List.append_eq, List.cons_append, List.nil_append]
 refine run ?_
 exact ends_ret0 (by rfl) (by rfl) (by rfl)
theorem rnode_c (l r : List UInt8) (h : l.length ≤ 1000000) (h' : r.length ≤ 1000000) : AC Tryz.prog 88 [.st l, .st r] [] (.st (node l r)) [] := by
 refine AC.enter [92, 89] [] Tryz.func88 rfl (by decide) (by decide) (Nat.le_of_ble_eq_true rfl) (by kernel_rfl) ?_; simp only [eraseC, eraseO, List.map_cons, List.map_nil, List.map_toArray, List.getElem?_toArray, List.getElem?_cons_zero, List.getElem?_cons_succ, Option.bind_some, Option.bind_none, List.append_eq, List.cons_append, List.nil_append]
 refine run ?_
 refine call_pure (rpre_c l r h h') (by rfl) (by rfl) (by rfl) ?_
 refine run ?_
 refine call_pure (rsha_c (pre l r) (by simp [pre]; omega)) (by rfl) (by rfl) (by rfl) ?_
 refine run ?_
 exact ends_ret0 (by rfl) (by rfl) (by rfl)
theorem rroot_c (k : Nat) : ∀ (l : List By), l.length ≤ k → l.length ≤ 1000000 → (∀ x ∈ l, x.length ≤ 1000000) →
  AC Tryz.prog 91 [sls l] [] (.st (root l)) [] := by
 induction k with
 | zero =>
  intro l hk hl hx
  have : l = [] := List.eq_nil_of_length_eq_zero (by omega)
  subst this
  refine AC.enter [91, 87, 88, 92] [] Tryz.func91 rfl (by decide) (by decide) (Nat.le_of_ble_eq_true rfl) (by kernel_rfl) ?_; simp only [eraseC, eraseO, List.map_cons, List.map_nil, List.map_toArray, List.getElem?_toArray, List.getElem?_cons_zero, List.getElem?_cons_succ, Option.bind_some, Option.bind_none, List.append_eq, List.cons_append, List.nil_append]
  refine run ?_
  refine call_pure (rsha_c [] (by simp)) (by rfl) (by rfl) (by rfl) ?_
  refine run ?_
  exact ends_ret0 (by rfl) (by rfl) (by rfl)
 | succ k ih =>
  intro l hk hl hx
  refine AC.enter [91, 87, 88, 92] [] Tryz.func91 rfl (by decide) (by decide) (Nat.le_of_ble_eq_true rfl) (by kernel_rfl) ?_; simp only [eraseC, eraseO, List.map_cons, List.map_nil, List.map_toArray, List.getElem?_toArray, List.getElem?_cons_zero, List.getElem?_cons_succ, Option.bind_some, Option.bind_none, List.append_eq, List.cons_append, List.nil_append]
  by_cases h0 : l.length = 0
  ·have : l = [] := List.eq_nil_of_length_eq_zero (by omega)
   subst this
   refine run ?_
   refine call_pure (rsha_c [] (by simp)) (by rfl) (by rfl) (by rfl) ?_
   refine run ?_
   exact ends_ret0 (by rfl) (by rfl) (by rfl)
  rw [root_rt (by omega)]
  by_cases h1 : l.length = 1
  ·obtain ⟨a, rfl⟩ := List.length_eq_one_iff.1 h1
   refine run ?_
   rw [rt_one (by simp)]
   exact ends_ret0 (by rfl) (by rfl) (by rfl)
  ·have h2 : 2 ≤ l.length := by omega
   have h3 := sp_lt h2
   have h4 := sp_pos l.length
   have ht : (List.take (sp l.length) l).length = sp l.length := by simp; omega
   have hd : (l.drop (sp l.length)).length = l.length - sp l.length := List.length_drop
   have hxt : ∀ x ∈ l.take (sp l.length), x.length ≤ 1000000 := fun x hx' => hx x (List.mem_of_mem_take hx')
   have hxd : ∀ x ∈ l.drop (sp l.length), x.length ≤ 1000000 := fun x hx' => hx x (List.mem_of_mem_drop hx')
   have f1 := ih (l.take (sp l.length)) (by omega) (by omega) hxt
   have f2 := ih (l.drop (sp l.length)) (by omega) (by omega) hxd
   rw [root_rt (by omega)] at f1 f2
   refine run ?_
   refine call_pure (rsplit_c l.length h2 (by omega)) (by rfl) (by rfl) (by rfl) ?_
   refine run ?_
   refine call_pure f1 (by rfl) (by rfl) (by rfl) ?_
   refine runf (@List.take_length (List UInt8)) ?_
   refine call_pure f2 (by rfl) (by rfl) (by rfl) ?_
   refine run ?_
   refine call_pure (rnode_c _ _ (rt_len hxt) (rt_len hxd)) (by rfl) (by rfl) (by rfl) ?_
   refine run ?_
   rw [rt_two h2]
   exact ends_ret0 (by rfl) (by rfl) (by rfl)
theorem rinner_c (k : Nat) : ∀ (l : List By) (m : Nat) (w : Bool), l.length ≤ k → 0 < m → m ≤ l.length → l.length ≤ 1000000 → (∀ x ∈ l, x.length ≤ 1000000) →
  AC Tryz.prog 181 [sls l, .it .i64 m, .bo w] [] (.sl (.own 0) ((link l m w).map .st)) [.buf (link l m w).length 9 1] := by
 induction k with
 | zero => intro l m w h1 h2; omega
 | succ k ih =>
  intro l m w hk h0 hm hl hx
  refine AC.enter [87, 91] [] Tryz.func181 rfl (by decide) (by decide) (Nat.le_of_ble_eq_true rfl) (by kernel_rfl) ?_; simp only [eraseC, eraseO, List.map_cons, List.map_nil, List.map_toArray, List.getElem?_toArray, List.getElem?_cons_zero, List.getElem?_cons_succ, Option.bind_some, Option.bind_none, List.append_eq, List.cons_append, List.nil_append]
  by_cases h1 : m = l.length
  ·subst h1
   rw [link_all]
   cases w
   ·have f1 := rroot_c _ l (Nat.le_refl _) hl hx
    rw [root_rt (by omega)] at f1
    refine run ?_
    refine call_pure f1 (by rfl) (by rfl) (by rfl) ?_
    refine run ?_
    refine ends_retW _ _ (Weak.reserve _ 6 (es := [.st (rt l)]) (by rfl) 9 1) [0] (by rfl) (subOk_one 0 (by rfl) (by rfl)) (by rfl) (by rfl) (by rfl)
   ·refine run ?_
    refine ends_retW _ _ (Weak.reserve _ 6 (es := []) (by rfl) 9 1) [0] (by rfl) (subOk_one 0 (by rfl) (by rfl)) (by rfl) (by rfl) (by rfl)
  ·have h2 : 2 ≤ l.length := by omega
   have h3 := sp_lt h2
   have h4 := sp_pos l.length
   have ht : (List.take (sp l.length) l).length = sp l.length := by simp; omega
   have hd : (l.drop (sp l.length)).length = l.length - sp l.length := List.length_drop
   have hxt : ∀ x ∈ l.take (sp l.length), x.length ≤ 1000000 := fun x hx' => hx x (List.mem_of_mem_take hx')
   have hxd : ∀ x ∈ l.drop (sp l.length), x.length ≤ 1000000 := fun x hx' => hx x (List.mem_of_mem_drop hx')
   have f1 := rroot_c _ (l.take (sp l.length)) (Nat.le_refl _) (by omega) hxt
   have f2 := rroot_c _ (l.drop (sp l.length)) (Nat.le_refl _) (by omega) hxd
   rw [root_rt (by omega)] at f1 f2
   refine run ?_
   refine call_pure (rsplit_c l.length h2 (by omega)) (by rfl) (by rfl) (by rfl) ?_
   by_cases hs : m ≤ sp l.length
   ·have hp := link_len (l.take (sp l.length)).length (l.take (sp l.length)) m w h0 (by omega) (Nat.le_refl _)
    refine runf (@List.take_length (List UInt8)) ?_
    refine call_mk (ih (l.take (sp l.length)) m w (by omega) h0 (by omega) (by omega) hxt) ?_
    refine runf (@List.take_length (List UInt8)) ?_
    refine call_pure f2 (by rfl) (by rfl) (by rfl) ?_
    refine run ?_
    rw [link_two h0 (by omega), if_pos hs]
    exact ends_ret (κ := [0]) (by rfl) (subOk_one 0 (by rfl) (by simp [SObj.ren])) (by rfl) (by rfl) (by simp [resV, AV.ren, AV.r2, AV.r1, AV.r0, Mode.ren, idx, ↓upd_apply])
   ·have hp := link_len (l.drop (sp l.length)).length (l.drop (sp l.length)) (m - sp l.length) false (by omega) (by omega) (Nat.le_refl _)
    have hsub : ((m : Int) - (sp l.length : Int)) = ((m - sp l.length : Nat) : Int) := by omega
    refine runf (an (@List.take_length (List UInt8)) @hsub) ?_
    refine call_mk (ih (l.drop (sp l.length)) (m - sp l.length) false (by omega) (by omega) (by omega) (by omega) hxd) ?_
    refine runf (@List.take_length (List UInt8)) ?_
    refine call_pure f1 (by rfl) (by rfl) (by rfl) ?_
    refine run ?_
    rw [link_two h0 (by omega), if_neg hs]
    exact ends_ret (κ := [0]) (by rfl) (subOk_one 0 (by rfl) (by simp [SObj.ren])) (by rfl) (by rfl) (by simp [resV, AV.ren, AV.r2, AV.r1, AV.r0, Mode.ren, idx, ↓upd_apply])
theorem rlink_c (l : List By) (m : Nat) (hm : m ≤ l.length) (hl : l.length ≤ 1000000) (hx : ∀ x ∈ l, x.length ≤ 1000000) :
  AC Tryz.prog 141 [sls l, .it .i64 m] [] (sls (if m = 0 then [] else link l m true)) [] := by
 refine AC.enter [] [] Tryz.func141 rfl (by decide) (by decide) (Nat.le_of_ble_eq_true rfl) (by kernel_rfl) ?_; simp only [eraseC, eraseO, List.map_cons, List.map_nil, List.map_toArray, List.getElem?_toArray, List.getElem?_cons_zero, List.getElem?_cons_succ, Option.bind_some, Option.bind_none, List.append_eq, List.cons_append, List.nil_append]
 by_cases h0 : m = 0
 ·refine run ?_
  rw [if_pos h0]
  exact ends_ret0w (by rfl) (by rfl) (by rfl)
 ·rw [if_neg h0]
  refine run ?_
  refine call_mk (rinner_c l.length l m true (Nat.le_refl _) (by omega) hm hl hx) ?_
  refine run ?_
  exact ends_ret0w (by rfl) (by rfl) (by rfl)
end Go.Proofs.YthbpbkbjdfcnjaaGreatDoor.Pe
