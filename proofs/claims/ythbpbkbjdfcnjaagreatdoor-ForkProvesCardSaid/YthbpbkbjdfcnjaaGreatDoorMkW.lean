/- Several texts in one. -/
import Derived.Test.YthbpbkbjdfcnjaaGreatDoorShaC
import Derived.Test.YthbpbkbjdfcnjaaGreatDoorCoW
import Derived.Test.YthbpbkbjdfcnjaaGreatDoorPeR
import Derived.Test.YthbpbkbjdfcnjaaGreatDoorTf
import Derived.Test.YthbpbkbjdfcnjaaGreatDoorLen64
import Derived.Test.YthbpbkbjdfcnjaaGreatDoorMkP
set_option linter.unusedSectionVars false
set_option linter.unusedVariables false
set_option linter.unusedSimpArgs false
namespace Go.Proofs.YthbpbkbjdfcnjaaGreatDoor.Pe
open Go Sm Mk
set_option maxRecDepth 100000
abbrev slf (l : List By) : AV := .sl .full (l.map .st)
theorem mkDigest_c (l : List UInt8) : AC Tryz.prog 135 [.st l] [] (.bo ((l.length : Int) == 32)) [] := by
 refine AC.enter [] [] Tryz.func135 rfl (by decide) (by decide) (Nat.le_of_ble_eq_true rfl) (by kernel_rfl) ?_; simp only [eraseC, eraseO, List.map_cons, List.map_nil, List.map_toArray, List.getElem?_toArray, List.getElem?_cons_zero, List.getElem?_cons_succ, Option.bind_some, Option.bind_none, List.append_eq, List.cons_append, List.nil_append]
 refine run ?_
 exact ends_ret0 (by rfl) (by rfl) (by rfl)
theorem areDigests_c (l : List By) (hl : l.length ≤ 1000000) : AC Tryz.prog 136 [sls l] [] (.bo (l.all fun s => (s.length : Int) == 32)) [] := by
 refine AC.enter [135] [] Tryz.func136 rfl (by decide) (by decide) (Nat.le_of_ble_eq_true rfl) (by kernel_rfl) ?_; simp only [eraseC, eraseO, List.map_cons, List.map_nil, List.map_toArray, List.getElem?_toArray, List.getElem?_cons_zero, List.getElem?_cons_succ, Option.bind_some, Option.bind_none, List.append_eq, List.cons_append, List.nil_append]
 refine run ?_
 refine loop_mk (fun m e S => S = [] ∧ e 5 = sls l ∧ e 6 = .it .i64 (l.length : Int) ∧ ∃ k, e 7 = .it .i64 ((k : Nat) : Int) ∧ k ≤ l.length ∧ (l.take k).all (fun s => (s.length : Int) == 32) = true ∧ m = l.length - k) l.length ⟨rfl, (by first | rfl | (simp only [↓upd_apply, ↓put_some, ↓reduceIte, Nat.reduceEqDiff, ↓argEnv_zero, ↓argEnv_succ, *]; done)), by simp [↓upd_apply], 0, (by first | rfl | (simp only [↓upd_apply, ↓put_some, ↓reduceIte, Nat.reduceEqDiff, ↓argEnv_zero, ↓argEnv_succ, *]; done)), by omega, rfl, rfl⟩ ?_
 rintro m e S ⟨rfl, h5, h6, k, h7, hk, hall, rfl⟩
 refine runf (an @h5 (an @h6 @h7)) ?_
 refine iteP_mk (fun hc => ?_) (fun hc => ?_)
 ·have hlt : k < l.length := by have := of_decide_eq_true hc; omega
  have hg : l[k]? = some l[k] := List.getElem?_eq_getElem hlt
  refine runf (an @h5 (an @h6 (an @h7 @hg))) ?_
  refine call_pure (mkDigest_c l[k]) (by rfl) (by rfl) (by rfl) ?_
  refine runf (an @h5 (an @h6 (an @h7 @hg))) ?_
  refine iteP_mk (fun hd => ?_) (fun hd => ?_)
  ·refine runf (an @h5 (an @h6 @h7)) ?_
   have : (l.all fun s => (s.length : Int) == 32) = false := by
    rw [List.all_eq_false]
    exact ⟨l[k], List.getElem_mem hlt, by simpa using hd⟩
   rw [this]
   exact ends_ret0 (by rfl) (by rfl) (by rfl)
  ·refine runf (an @h5 (an @h6 @h7)) ?_
   exact round_mk (l.length - (k + 1)) (by omega) ⟨rfl, (by first | rfl | (simp only [↓upd_apply, ↓put_some, ↓reduceIte, Nat.reduceEqDiff, ↓argEnv_zero, ↓argEnv_succ, *]; done)), (by first | rfl | (simp only [↓upd_apply, ↓put_some, ↓reduceIte, Nat.reduceEqDiff, ↓argEnv_zero, ↓argEnv_succ, *]; done)), k + 1, (by first | rfl | (simp only [↓upd_apply, ↓put_some, ↓reduceIte, Nat.reduceEqDiff, ↓argEnv_zero, ↓argEnv_succ, *]; done)), by omega, by rw [List.take_succ_eq_append_getElem hlt, List.all_append, hall]; simpa using hd, rfl⟩
 ·have hge : k = l.length := by have := of_decide_eq_false hc; omega
  refine runf (an @h5 (an @h6 @h7)) ?_
  subst hge
  rw [List.take_length] at hall
  rw [hall]
  exact ends_ret0 (by rfl) (by rfl) (by rfl)
theorem leaf_c (l : List UInt8) (h : l.length ≤ 1000000) : AC Tryz.prog 107 [.st l] [] (.st (leaf l)) [] := by
 refine AC.enter [108] [] Tryz.func107 rfl (by decide) (by decide) (Nat.le_of_ble_eq_true rfl) (by kernel_rfl) ?_; simp only [eraseC, eraseO, List.map_cons, List.map_nil, List.map_toArray, List.getElem?_toArray, List.getElem?_cons_zero, List.getElem?_cons_succ, Option.bind_some, Option.bind_none, List.append_eq, List.cons_append, List.nil_append]
 refine run ?_
 refine call_pure (sha_c (0 :: l) (by simp; omega)) (by rfl) (by rfl) (by rfl) ?_
 refine run ?_
 exact ends_ret0 (by rfl) (by rfl) (by rfl)
theorem node_c (l r : List UInt8) (h : l.length ≤ 1000000) (h' : r.length ≤ 1000000) : AC Tryz.prog 111 [.st l, .st r] [] (.st (node l r)) [] := by
 refine AC.enter [108] [] Tryz.func111 rfl (by decide) (by decide) (Nat.le_of_ble_eq_true rfl) (by kernel_rfl) ?_; simp only [eraseC, eraseO, List.map_cons, List.map_nil, List.map_toArray, List.getElem?_toArray, List.getElem?_cons_zero, List.getElem?_cons_succ, Option.bind_some, Option.bind_none, List.append_eq, List.cons_append, List.nil_append]
 refine run ?_
 refine call_pure (sha_c (1 :: (l ++ r)) (by simp; omega)) (by rfl) (by rfl) (by rfl) ?_
 refine run ?_
 exact ends_ret0 (by rfl) (by rfl) (by rfl)
theorem sp_pow {n : Nat} (h : 2 ≤ n) : 2 ^ (blen (n - 1) - 1) = sp n := by
 unfold blen sp
 rw [if_neg (by omega)]
 rfl
theorem split_c (n : Nat) (h : 2 ≤ n) (h' : n < 9223372036854775808) : AC Tryz.prog 166 [.it .i64 n] [] (.it .i64 (sp n)) [] := by
 refine AC.enter [152] [] Tryz.func166 rfl (by decide) (by decide) (Nat.le_of_ble_eq_true rfl) (by kernel_rfl) ?_; simp only [eraseC, eraseO, List.map_cons, List.map_nil, List.map_toArray, List.getElem?_toArray, List.getElem?_cons_zero, List.getElem?_cons_succ, Option.bind_some, Option.bind_none, List.append_eq, List.cons_append, List.nil_append]
 have hu : IntKind.u64.wrap ((n : Int) - 1) = ((n - 1 : Nat) : Int) := by
  rw [show (n : Int) - 1 = ((n - 1 : Nat) : Int) from by omega, wrap64n]
  simp; omega
 refine runf @hu ?_
 refine call_pure (len64_c (n - 1) (by omega)) (by rfl) (by rfl) (by rfl) ?_
 have hb := blen_le (n - 1)
 have hs : aShl .i64 1 ((blen (n - 1) : Int) - 1) = some (.it .i64 (sp n : Int)) := by
  have h1 := sp_lt h
  have h2 := sp_pow h
  have h3 : 0 < blen (n - 1) := by unfold blen; rw [if_neg (by omega)]; omega
  have h4 : blen (n - 1) ≤ 63 := by
   unfold blen
   rw [if_neg (by omega)]
   have := (Nat.log2_lt (n := n - 1) (k := 63) (by omega)).2 (by omega)
   omega
  unfold aShl
  rw [if_pos (by omega)]
  congr 2
  rw [show ((blen (n - 1) : Int) - 1).toNat = blen (n - 1) - 1 from by omega, show min (blen (n - 1) - 1) IntKind.i64.bits = blen (n - 1) - 1 from Nat.min_eq_left (by show _ ≤ 64; omega)]
  rw [show (1 : Int) * 2 ^ (blen (n - 1) - 1) = ((2 ^ (blen (n - 1) - 1) : Nat) : Int) from by push_cast; omega, h2]
  exact wrap64 (by omega) (by omega)
 refine runf @hs ?_
 exact ends_ret0 (by rfl) (by rfl) (by rfl)
theorem halves_c (l : List By) (h : 2 ≤ l.length) (h' : l.length ≤ 1000000) : AC Tryz.prog 110 [sls l] [] (.tup [slf (l.take (sp l.length)), slf (l.drop (sp l.length))]) [] := by
 refine AC.enter [166] [] Tryz.func110 rfl (by decide) (by decide) (Nat.le_of_ble_eq_true rfl) (by kernel_rfl) ?_; simp only [eraseC, eraseO, List.map_cons, List.map_nil, List.map_toArray, List.getElem?_toArray, List.getElem?_cons_zero, List.getElem?_cons_succ, Option.bind_some, Option.bind_none, List.append_eq, List.cons_append, List.nil_append]
 refine run ?_
 refine call_pure (split_c l.length h (by omega)) (by rfl) (by rfl) (by rfl) ?_
 have h1 := sp_lt h
 have h2 := sp_pos l.length
 refine run ?_
 refine ends_ret0 (by rfl) (by rfl) ?_
 simp only [resV, aRes, ↓upd_apply, ↓put_some, ↓reduceIte, Nat.reduceEqDiff, ↓argEnv_zero, ↓argEnv_succ, Option.map_some, List.take_length, List.drop_zero, AV.wk, AV.wk2, AV.wk1, List.map_cons, List.map_nil]
theorem sha_len (l : List UInt8) : (sha l).length = 32 := by
 simp [sha, S8.list, be4]
def box (f : FuncId) : SObj := .cells [.fn (.func f) [] [.ptr 0 0]]
theorem boxR {P : Program} {f g : FuncId} {l : List By} {s : By} (h : AC P f [sls l, .ptr 0 0] [box g] (.st s) [box g]) (R : Store) : AC P f [sls l, .ptr 0 0] ([box g] ++ R) (.st s) ([box g] ++ R) := AC.at1 (T := [box g] ++ R) h 0 rfl rfl rfl rfl rfl
theorem rt_len {l : List By} (h : ∀ x ∈ l, x.length ≤ 1000000) : (rt l).length ≤ 1000000 := by
 by_cases h2 : 2 ≤ l.length
 ·rw [rt_two h2, node, sha_len]; omega
 ·rw [rt_one (by omega)]
  cases l with
  | nil => simp
  | cons a l => exact h a (by simp)
theorem root1_c (k : Nat) : ∀ (l : List By), l.length ≤ k → 1 ≤ l.length → l.length ≤ 1000000 → (∀ x ∈ l, x.length ≤ 1000000) →
  AC Tryz.prog 109 [sls l, .ptr 0 0] [box 109] (.st (rt l)) [box 109] := by
 induction k with
 | zero => intro l h1 h2; omega
 | succ k ih =>
  intro l hk h1 hl hx
  refine AC.enter [110, 111] [1000017, 1000020] Tryz.func109 rfl (by decide) (by decide) (Nat.le_of_ble_eq_true rfl) (by kernel_rfl) ?_; simp only [eraseC, eraseO, List.map_cons, List.map_nil, List.map_toArray, List.getElem?_toArray, List.getElem?_cons_zero, List.getElem?_cons_succ, Option.bind_some, Option.bind_none, List.append_eq, List.cons_append, List.nil_append]
  refine run ?_
  refine iteP_mk (fun hc => ?_) (fun hc => ?_)
  ·have hc : l.length = 1 := by simp at hc; omega
   obtain ⟨a, rfl⟩ := List.length_eq_one_iff.1 hc
   refine run ?_
   exact ends_ret (κ := [0]) (by rfl) (subOk_one 0 (by rfl) (by rfl)) (by rfl) (by rfl) (by rfl)
  ·have hc : l.length ≠ 1 := by simp at hc; omega
   have h2 : 2 ≤ l.length := by omega
   have h3 := sp_lt h2
   have h4 := sp_pos l.length
   refine run ?_
   refine call_pure (halves_c l h2 hl) (by rfl) (by rfl) (by rfl) ?_
   refine runf @box.eq_1 ?_
   refine call_mk ⟨boxR (ih (l.take (sp l.length)) (by simp; omega) (by simp; omega) (by simp; omega) (fun x hx' => hx x (List.mem_of_mem_take hx'))), rfl⟩ ?_
   refine runf @box.eq_1 ?_
   refine call_mk ⟨boxR (ih (l.drop (sp l.length)) (by simp; omega) (by simp; omega) (by simp; omega) (fun x hx' => hx x (List.mem_of_mem_drop hx'))), rfl⟩ ?_
   refine runf @box.eq_1 ?_
   refine call_pure (node_c (rt (l.take (sp l.length))) (rt (l.drop (sp l.length))) (rt_len (fun x hx' => hx x (List.mem_of_mem_take hx'))) (rt_len (fun x hx' => hx x (List.mem_of_mem_drop hx')))) (by rfl) (by rfl) (by rfl) ?_
   refine runf @box.eq_1 ?_
   rw [rt_two h2]
   exact ends_ret (κ := [0]) (by rfl) (subOk_one 0 (by rfl) (by rfl)) (by rfl) (by rfl) (by rfl)
theorem root_c (l : List By) (hl : l.length ≤ 1000000) (hx : ∀ x ∈ l, x.length ≤ 1000000) : AC Tryz.prog 58 [sls l] [] (.st (root l)) [] := by
 refine AC.enter [108] [] Tryz.func58 rfl (by decide) (by decide) (Nat.le_of_ble_eq_true rfl) (by kernel_rfl) ?_; simp only [eraseC, eraseO, List.map_cons, List.map_nil, List.map_toArray, List.getElem?_toArray, List.getElem?_cons_zero, List.getElem?_cons_succ, Option.bind_some, Option.bind_none, List.append_eq, List.cons_append, List.nil_append]
 by_cases h0 : l.length = 0
 ·refine run ?_
  refine call_pure (sha_c [] (by simp)) (by rfl) (by rfl) (by rfl) ?_
  refine run ?_
  have : root l = sha [] := if_pos (List.eq_nil_of_length_eq_zero h0)
  rw [this]
  exact ends_ret0 (by rfl) (by rfl) (by rfl)
 ·refine run ?_
  refine call_mk (root1_c l.length l (Nat.le_refl _) (by omega) hl hx) ?_
  refine runf @box.eq_1 ?_
  have : root l = rt l := if_neg (fun e => h0 (by rw [e]; rfl))
  rw [this]
  exact ends_ret0 (by rfl) (by rfl) (by rfl)
theorem root_rt {l : List By} (h : 0 < l.length) : root l = rt l := if_neg (fun e => by rw [e] at h; simp at h)
theorem path_len : ∀ (k : Nat) (l : List By) (i : Nat), l.length ≤ k → (path l i).length ≤ k := by
 intro k
 induction k with
 | zero => intro l i h; rw [path_one (by omega)]; simp
 | succ k ih =>
  intro l i h
  by_cases h2 : 2 ≤ l.length
  ·have h3 := sp_lt h2
   have h4 := sp_pos l.length
   rw [path_two h2]
   split
   ·have := ih (l.take (sp l.length)) i (by simp; omega); simp; omega
   ·have := ih (l.drop (sp l.length)) (i - sp l.length) (by simp; omega); simp; omega
  ·rw [path_one (by omega)]; simp
end Go.Proofs.YthbpbkbjdfcnjaaGreatDoor.Pe
namespace Go.Proofs.YthbpbkbjdfcnjaaGreatDoor.Pe
open Go Sm Mk
set_option maxRecDepth 100000
theorem node_len (l r : By) : (node l r).length = 32 := sha_len _
theorem flw_len : ∀ (p : List By) (i n : Nat) (x : By), x.length ≤ 1000000 → (flw p i n x).1.length ≤ 1000000
 | [], i, n, x, h => by simp only [flw]; split <;> simp [h]
 | q :: r, i, n, x, h => by
  simp only [flw]; split
  ·exact h
  ·split
   ·rw [node_len]; omega
   ·rw [node_len]; omega
theorem rev_last (r : List By) (q : By) : (r.reverse ++ [q])[r.length]? = some q := by
 rw [List.getElem?_append_right (by simp)]; simp
theorem rev_take (r : List By) (q : By) : (r.reverse ++ [q]).take r.length = r.reverse := by
 rw [List.take_append_of_le_length (by simp), List.take_of_length_le (by simp)]
end Go.Proofs.YthbpbkbjdfcnjaaGreatDoor.Pe
namespace Go.Proofs.YthbpbkbjdfcnjaaGreatDoor.Pe
open Go Sm Mk
set_option maxRecDepth 100000
end Go.Proofs.YthbpbkbjdfcnjaaGreatDoor.Pe
namespace Go.Proofs.YthbpbkbjdfcnjaaGreatDoor.Pe
open Go Sm Mk
set_option maxRecDepth 100000
theorem link_len : ∀ (k : Nat) (l : List By) (m : Nat) (w : Bool), 0 < m → m ≤ l.length → l.length ≤ k → (link l m w).length ≤ k := by
 intro k
 induction k with
 | zero => intro l m w h0 h1 h; omega
 | succ k ih =>
  intro l m w h0 h1 h
  by_cases h2 : m = l.length
  ·subst h2; rw [link_all]; split <;> simp
  ·have h3 := sp_lt (n := l.length) (by omega)
   have h4 := sp_pos l.length
   rw [link_two h0 (by omega)]
   split
   ·have := ih (l.take (sp l.length)) m w h0 (by simp; omega) (by simp; omega); simp; omega
   ·have := ih (l.drop (sp l.length)) (m - sp l.length) false (by omega) (by simp; omega) (by simp; omega); simp; omega
theorem link1_c (k : Nat) : ∀ (l : List By) (m : Nat) (w : Bool), l.length ≤ k → 0 < m → m ≤ l.length → l.length ≤ 1000000 → (∀ x ∈ l, x.length ≤ 1000000) →
  AC Tryz.prog 134 [sls l, .it .i64 m, .bo w, .ptr 0 0] [box 134] (.sl (.own 1) ((link l m w).map .st)) [box 134, .buf (link l m w).length 9 1] := by
 induction k with
 | zero => intro l m w h1 h2; omega
 | succ k ih =>
  intro l m w hk h0 hm hl hx
  refine AC.enter [110, 58] [] Tryz.func134 rfl (by decide) (by decide) (Nat.le_of_ble_eq_true rfl) (by kernel_rfl) ?_; simp only [eraseC, eraseO, List.map_cons, List.map_nil, List.map_toArray, List.getElem?_toArray, List.getElem?_cons_zero, List.getElem?_cons_succ, Option.bind_some, Option.bind_none, List.append_eq, List.cons_append, List.nil_append]
  by_cases h1 : m = l.length
  ·subst h1
   refine run ?_
   rw [link_all]
   cases w
   ·refine run ?_
    refine call_pure (root_c l hl hx) (by rfl) (by rfl) (by rfl) ?_
    rw [root_rt (by omega)]
    refine run ?_
    refine ends_retW _ _ (Weak.reserve _ 7 (es := [.st (rt l)]) (by rfl) 9 1) [0, 1] (by rfl) (subOk_two 0 1 (by decide) (by rfl) (by rfl) (by rfl) (by rfl)) (by rfl) (by rfl) (by rfl)
   ·refine run ?_
    refine ends_retW _ _ (Weak.reserve _ 7 (es := []) (by rfl) 9 1) [0, 1] (by rfl) (subOk_two 0 1 (by decide) (by rfl) (by rfl) (by rfl) (by rfl)) (by rfl) (by rfl) (by rfl)
  ·have h2 : 2 ≤ l.length := by omega
   have h3 := sp_lt h2
   have h4 := sp_pos l.length
   refine run ?_
   refine call_pure (halves_c l h2 hl) (by rfl) (by rfl) (by rfl) ?_
   have ht : (List.take (sp l.length) l).length = sp l.length := by simp; omega
   have hxt : ∀ x ∈ l.take (sp l.length), x.length ≤ 1000000 := fun x hx' => hx x (List.mem_of_mem_take hx')
   have hxd : ∀ x ∈ l.drop (sp l.length), x.length ≤ 1000000 := fun x hx' => hx x (List.mem_of_mem_drop hx')
   by_cases hs : m ≤ sp l.length
   ·have hp := link_len (l.take (sp l.length)).length (l.take (sp l.length)) m w h0 (by simp; omega) (Nat.le_refl _)
    have hr : root (l.drop (sp l.length)) = rt (l.drop (sp l.length)) := root_rt (by simp; omega)
    refine runf (an @box.eq_1 @ht) ?_
    refine call_mk (ih (l.take (sp l.length)) m w (by simp; omega) h0 (by simp; omega) (by simp; omega) hxt) ?_
    refine runf (an @box.eq_1 @ht) ?_
    refine call_pure (root_c (l.drop (sp l.length)) (by simp; omega) hxd) (by rfl) (by rfl) (by rfl) ?_
    rw [hr]
    refine runf (an @box.eq_1 @ht) ?_
    rw [link_two h0 (by omega), if_pos hs]
    exact ends_ret (κ := [0, 1]) (by rfl) (subOk_two 0 1 (by decide) (by rfl) (by rfl) (by rfl) (by simp [SObj.ren])) (by rfl) (by rfl) (by simp [resV, AV.ren, AV.r2, AV.r1, AV.r0, Mode.ren, idx, ↓upd_apply])
   ·have hd : (l.drop (sp l.length)).length = l.length - sp l.length := List.length_drop
    have hp := link_len (l.drop (sp l.length)).length (l.drop (sp l.length)) (m - sp l.length) false (by omega) (by omega) (Nat.le_refl _)
    have hr : root (l.take (sp l.length)) = rt (l.take (sp l.length)) := root_rt (by simp; omega)
    have hsub : ((m : Int) - (sp l.length : Int)) = ((m - sp l.length : Nat) : Int) := by omega
    refine runf (an @box.eq_1 (an @ht @hsub)) ?_
    refine call_mk (ih (l.drop (sp l.length)) (m - sp l.length) false (by simp; omega) (by omega) (by simp; omega) (by simp; omega) hxd) ?_
    refine runf (an @box.eq_1 @ht) ?_
    refine call_pure (root_c (l.take (sp l.length)) (by simp; omega) hxt) (by rfl) (by rfl) (by rfl) ?_
    rw [hr]
    refine runf (an @box.eq_1 @ht) ?_
    rw [link_two h0 (by omega), if_neg hs]
    exact ends_ret (κ := [0, 1]) (by rfl) (subOk_two 0 1 (by decide) (by rfl) (by rfl) (by rfl) (by simp [SObj.ren])) (by rfl) (by rfl) (by simp [resV, AV.ren, AV.r2, AV.r1, AV.r0, Mode.ren, idx, ↓upd_apply])
theorem link_c_no (l : List By) (m : Int) (hm : m < 0 ∨ (l.length : Int) < m) (hl : l.length ≤ 1000000) :
  AC Tryz.prog 85 [sls l, .it .i64 m] [] (.tup [sls [], .bo false]) [] := by
 refine AC.enter [] [] Tryz.func85 rfl (by decide) (by decide) (Nat.le_of_ble_eq_true rfl) (by kernel_rfl) ?_; simp only [eraseC, eraseO, List.map_cons, List.map_nil, List.map_toArray, List.getElem?_toArray, List.getElem?_cons_zero, List.getElem?_cons_succ, Option.bind_some, Option.bind_none, List.append_eq, List.cons_append, List.nil_append]
 by_cases h0 : m < 0
 ·refine run ?_
  exact ends_ret0w (by rfl) (by rfl) (by rfl)
 ·refine run ?_
  exact ends_ret0w (by rfl) (by rfl) (by rfl)
theorem link_c (l : List By) (m : Nat) (hm : m ≤ l.length) (hl : l.length ≤ 1000000) (hx : ∀ x ∈ l, x.length ≤ 1000000) :
  AC Tryz.prog 85 [sls l, .it .i64 m] [] (.tup [sls (if m = 0 then [] else link l m true), .bo true]) [] := by
 refine AC.enter [] [] Tryz.func85 rfl (by decide) (by decide) (Nat.le_of_ble_eq_true rfl) (by kernel_rfl) ?_; simp only [eraseC, eraseO, List.map_cons, List.map_nil, List.map_toArray, List.getElem?_toArray, List.getElem?_cons_zero, List.getElem?_cons_succ, Option.bind_some, Option.bind_none, List.append_eq, List.cons_append, List.nil_append]
 by_cases h0 : m = 0
 ·refine run ?_
  rw [if_pos h0]
  exact ends_ret0w (by rfl) (by rfl) (by rfl)
 rw [if_neg h0]
 by_cases h1 : m = l.length
 ·subst h1
  refine run ?_
  rw [link_all]
  exact ends_ret0w (by rfl) (by rfl) (by rfl)
 ·refine run ?_
  refine call_mk (link1_c l.length l m true (Nat.le_refl _) (by omega) hm hl hx) ?_
  refine runf @box.eq_1 ?_
  exact ends_ret0w (by rfl) (by rfl) (by rfl)
end Go.Proofs.YthbpbkbjdfcnjaaGreatDoor.Pe
namespace Go.Proofs.YthbpbkbjdfcnjaaGreatDoor.Pe
open Go Sm Mk
set_option maxRecDepth 100000
theorem roots_len : ∀ (p : List By) (m n : Nat) (x : By) (w : Bool), x.length ≤ 1000000 → (∀ y ∈ p, y.length ≤ 1000000) → (roots p m n x w).1.length ≤ 1000000 ∧ (roots p m n x w).2.1.length ≤ 1000000
 | [], m, n, x, w, h, ha => by simp only [roots]; split <;> simp [h]
 | q :: r, m, n, x, w, h, ha => by
  have hq := ha q (by simp)
  simp only [roots]; split
  ·split
   ·exact ⟨h, h⟩
   ·split <;> simp [hq]
  ·split
   ·have := roots_len r m (sp n) x w h (fun y hy => ha y (by simp [hy]))
    exact ⟨this.1, by rw [node_len]; omega⟩
   ·exact ⟨by rw [node_len]; omega, by rw [node_len]; omega⟩
theorem roots_c (p : List By) : ∀ (m n : Nat) (x : By) (w : Bool), 0 < m → m ≤ n → n ≤ 9223372036854775807 → p.length ≤ 1000000 → x.length ≤ 1000000 → (∀ y ∈ p, y.length ≤ 1000000) →
  AC Tryz.prog 137 [.it .i64 m, .it .i64 n, .st x, sls p.reverse, .bo w] [] (.tup [.st (roots p m n x w).1, .st (roots p m n x w).2.1, .bo (roots p m n x w).2.2]) [] := by
 induction p with
 | nil =>
  intro m n x w h0 hm hn hp hx hall
  refine AC.enter [137, 166, 111] [] Tryz.func137 rfl (by decide) (by decide) (Nat.le_of_ble_eq_true rfl) (by kernel_rfl) ?_; simp only [eraseC, eraseO, List.map_cons, List.map_nil, List.map_toArray, List.getElem?_toArray, List.getElem?_cons_zero, List.getElem?_cons_succ, Option.bind_some, Option.bind_none, List.append_eq, List.cons_append, List.nil_append]
  have : List.reverse ([] : List By) = [] := rfl
  simp only [roots, this]
  by_cases h1 : m = n
  ·subst h1
   cases w
   ·refine run ?_
    exact ends_ret0 (by rfl) (by rfl) (by rfl)
   ·refine run ?_
    exact ends_ret0 (by rfl) (by rfl) (by rfl)
  ·rw [if_neg (fun h => h1 h.1)]
   refine run ?_
   exact ends_ret0 (by rfl) (by rfl) (by rfl)
 | cons q r ih =>
  intro m n x w h0 hm hn hp hx hall
  refine AC.enter [137, 166, 111] [] Tryz.func137 rfl (by decide) (by decide) (Nat.le_of_ble_eq_true rfl) (by kernel_rfl) ?_; simp only [eraseC, eraseO, List.map_cons, List.map_nil, List.map_toArray, List.getElem?_toArray, List.getElem?_cons_zero, List.getElem?_cons_succ, Option.bind_some, Option.bind_none, List.append_eq, List.cons_append, List.nil_append]
  have hrev : List.reverse (q :: r) = r.reverse ++ [q] := by simp
  have hlr : r.reverse.length = r.length := List.length_reverse
  rw [hrev]
  have hp' : r.length + 1 ≤ 1000000 := hp
  by_cases h1 : m = n
  ·subst h1
   cases w
   ·simp only [roots, if_true, Bool.false_eq_true, if_false]
    by_cases hr : r = []
    ·subst hr
     rw [if_pos rfl]
     simp only [List.reverse_nil, List.nil_append]
     refine run ?_
     exact ends_ret0 (by rfl) (by rfl) (by rfl)
    ·rw [if_neg hr]
     have : 0 < r.length := List.length_pos_iff.2 hr
     refine runf @hlr ?_
     exact ends_ret0 (by rfl) (by rfl) (by rfl)
   ·simp only [roots, if_true]
    refine runf @hlr ?_
    exact ends_ret0 (by rfl) (by rfl) (by rfl)
  ·have hl := rev_last r q
   have el : ((r.length + 1 : Nat) : Int) - 1 = (r.length : Int) := by omega
   have ht := rev_take r q
   refine runf (an @hlr (an @el (an @hl @ht))) ?_
   refine call_pure (split_c n (by omega) (by omega)) (by rfl) (by rfl) (by rfl) ?_
   have h3 := sp_lt (n := n) (by omega)
   have h4 := sp_pos n
   have hall' : ∀ y ∈ r, y.length ≤ 1000000 := fun y hy => hall y (by simp [hy])
   by_cases hs : m ≤ sp n
   ·refine runf (an @hlr (an @el (an @hl @ht))) ?_
    refine call_pure (ih m (sp n) x w h0 hs (by omega) (by omega) hx hall') (by rfl) (by rfl) (by rfl) ?_
    refine runf (an @hlr (an @el (an @hl @ht))) ?_
    refine call_pure (node_c _ q (roots_len r m (sp n) x w hx hall').2 (hall q (by simp))) (by rfl) (by rfl) (by rfl) ?_
    refine runf (an @hlr (an @el (an @hl @ht))) ?_
    simp only [roots, if_neg h1, if_pos hs]
    exact ends_ret0 (by rfl) (by rfl) (by rfl)
   ·have e1 : (m : Int) - (sp n : Int) = ((m - sp n : Nat) : Int) := by omega
    have e2 : (n : Int) - (sp n : Int) = ((n - sp n : Nat) : Int) := by omega
    refine runf (an @hlr (an @el (an @hl (an @ht (an @e1 @e2))))) ?_
    refine call_pure (ih (m - sp n) (n - sp n) x false (by omega) (by omega) (by omega) (by omega) hx hall') (by rfl) (by rfl) (by rfl) ?_
    refine runf (an @hlr (an @el (an @hl @ht))) ?_
    refine call_pure (node_c q _ (hall q (by simp)) (roots_len r (m - sp n) (n - sp n) x false hx hall').1) (by rfl) (by rfl) (by rfl) ?_
    refine runf (an @hlr (an @el (an @hl @ht))) ?_
    refine call_pure (node_c q _ (hall q (by simp)) (roots_len r (m - sp n) (n - sp n) x false hx hall').2) (by rfl) (by rfl) (by rfl) ?_
    refine runf (an @hlr (an @el (an @hl @ht))) ?_
    simp only [roots, if_neg h1, if_neg hs]
    exact ends_ret0 (by rfl) (by rfl) (by rfl)
abbrev digs (p : List By) : Bool := p.all fun s => (s.length : Int) == 32
def extB (m n : Int) (old now : By) (p : List By) : Bool :=
 if m < 0 ∨ n < m ∨ old.length ≠ 32 ∨ now.length ≠ 32 ∨ digs p = false then false else
 if m = 0 ∧ old = sha [] ∧ p.length = 0 then true else
 if m = n ∧ now = old ∧ p.length = 0 then true else
 if m = 0 ∨ m = n then false else
 (roots p.reverse m.toNat n.toNat old true).2.2 && (roots p.reverse m.toNat n.toNat old true).1 == old && (roots p.reverse m.toNat n.toNat old true).2.1 == now
theorem extends_c (p : List By) (m n : Int) (old now : By) (hn : n ≤ 9223372036854775807) (hp : p.length ≤ 1000000) (hall : ∀ y ∈ p, y.length ≤ 1000000) :
  AC Tryz.prog 86 [.it .i64 m, .it .i64 n, .st old, .st now, sls p] [] (.bo (extB m n old now p)) [] := by
 refine AC.enter [135, 136, 137, 58] [] Tryz.func86 rfl (by decide) (by decide) (Nat.le_of_ble_eq_true rfl) (by kernel_rfl) ?_; simp only [eraseC, eraseO, List.map_cons, List.map_nil, List.map_toArray, List.getElem?_toArray, List.getElem?_cons_zero, List.getElem?_cons_succ, Option.bind_some, Option.bind_none, List.append_eq, List.cons_append, List.nil_append]
 by_cases a0 : m < 0
 ·rw [show extB m n old now p = false from if_pos (Or.inl a0)]
  refine run ?_
  exact ends_ret0 (by rfl) (by rfl) (by rfl)
 by_cases a1 : n < m
 ·rw [show extB m n old now p = false from if_pos (Or.inr (Or.inl a1))]
  refine run ?_
  exact ends_ret0 (by rfl) (by rfl) (by rfl)
 refine run ?_
 refine call_pure (mkDigest_c old) (by rfl) (by rfl) (by rfl) ?_
 by_cases a2 : old.length = 32
 rotate_left
 ·rw [show extB m n old now p = false from if_pos (Or.inr (Or.inr (Or.inl a2)))]
  refine run ?_
  exact ends_ret0 (by rfl) (by rfl) (by rfl)
 refine run ?_
 refine call_pure (mkDigest_c now) (by rfl) (by rfl) (by rfl) ?_
 by_cases a3 : now.length = 32
 rotate_left
 ·rw [show extB m n old now p = false from if_pos (Or.inr (Or.inr (Or.inr (Or.inl a3))))]
  refine run ?_
  exact ends_ret0 (by rfl) (by rfl) (by rfl)
 refine run ?_
 refine call_pure (areDigests_c p (by omega)) (by rfl) (by rfl) (by rfl) ?_
 cases a4 : digs p
 ·have a4' : (p.all fun s => (s.length : Int) == 32) = false := a4
  rw [show extB m n old now p = false from if_pos (Or.inr (Or.inr (Or.inr (Or.inr a4))))]
  refine runf @a4' ?_
  exact ends_ret0 (by rfl) (by rfl) (by rfl)
 have a4' : (p.all fun s => (s.length : Int) == 32) = true := a4
 have hX : extB m n old now p = if m = 0 ∧ old = sha [] ∧ p.length = 0 then true else
   if m = n ∧ now = old ∧ p.length = 0 then true else
   if m = 0 ∨ m = n then false else
   (roots p.reverse m.toNat n.toNat old true).2.2 && (roots p.reverse m.toNat n.toNat old true).1 == old && (roots p.reverse m.toNat n.toNat old true).2.1 == now := by
  unfold extB
  rw [if_neg (by rw [a4]; simp; omega)]
 rw [hX]
 clear hX
 by_cases b0 : m = 0
 ·refine runf @a4' ?_
  refine call_pure (root_c [] (by simp) (by simp)) (by rfl) (by rfl) (by rfl) ?_
  have hr : root [] = sha [] := rfl
  rw [hr]
  by_cases b1 : old = sha []
  ·have b1' : (old == sha []) = true := by simp [b1]
   by_cases b2 : p.length = 0
   ·rw [if_pos ⟨b0, b1, b2⟩]
    refine runf (an @a4' @b1') ?_
    exact ends_ret0 (by rfl) (by rfl) (by rfl)
   ·rw [if_neg (fun h => b2 h.2.2), if_neg (fun h => b2 h.2.2), if_pos (Or.inl b0)]
    by_cases b3 : m = n
    ·cases b4 : (now == old)
     ·refine runf (an @a4' (an @b1' @b4)) ?_
      exact ends_ret0 (by rfl) (by rfl) (by rfl)
     ·refine runf (an @a4' (an @b1' @b4)) ?_
      exact ends_ret0 (by rfl) (by rfl) (by rfl)
    ·refine runf (an @a4' @b1') ?_
     exact ends_ret0 (by rfl) (by rfl) (by rfl)
  ·have b1' : (old == sha []) = false := by simp [b1]
   rw [if_neg (fun h => b1 h.2.1)]
   by_cases b3 : m = n
   ·by_cases b4 : now = old
    ·have b4' : (now == old) = true := by simp [b4]
     by_cases b2 : p.length = 0
     ·rw [if_pos ⟨b3, b4, b2⟩]
      refine runf (an @a4' (an @b1' @b4')) ?_
      exact ends_ret0 (by rfl) (by rfl) (by rfl)
     ·rw [if_neg (fun h => b2 h.2.2), if_pos (Or.inl b0)]
      refine runf (an @a4' (an @b1' @b4')) ?_
      exact ends_ret0 (by rfl) (by rfl) (by rfl)
    ·have b4' : (now == old) = false := by simp [b4]
     rw [if_neg (fun h => b4 h.2.1), if_pos (Or.inl b0)]
     refine runf (an @a4' (an @b1' @b4')) ?_
     exact ends_ret0 (by rfl) (by rfl) (by rfl)
   ·rw [if_neg (fun h => b3 h.1), if_pos (Or.inl b0)]
    refine runf (an @a4' @b1') ?_
    exact ends_ret0 (by rfl) (by rfl) (by rfl)
 rw [if_neg (fun h => b0 h.1)]
 by_cases b3 : m = n
 ·by_cases b4 : now = old
  ·have b4' : (now == old) = true := by simp [b4]
   by_cases b2 : p.length = 0
   ·rw [if_pos ⟨b3, b4, b2⟩]
    refine runf (an @a4' @b4') ?_
    exact ends_ret0 (by rfl) (by rfl) (by rfl)
   ·rw [if_neg (fun h => b2 h.2.2), if_pos (Or.inr b3)]
    refine runf (an @a4' @b4') ?_
    exact ends_ret0 (by rfl) (by rfl) (by rfl)
  ·have b4' : (now == old) = false := by simp [b4]
   rw [if_neg (fun h => b4 h.2.1), if_pos (Or.inr b3)]
   refine runf (an @a4' @b4') ?_
   exact ends_ret0 (by rfl) (by rfl) (by rfl)
 ·rw [if_neg (fun h => b3 h.1), if_neg (by simp [b0, b3])]
  refine runf @a4' ?_
  have f1 := roots_c p.reverse m.toNat n.toNat old true (by omega) (by omega) (by omega) (by simp; omega) (by omega) (fun y hy => hall y (by simpa using hy))
  rw [List.reverse_reverse, show ((m.toNat : Nat) : Int) = m from by omega, show ((n.toNat : Nat) : Int) = n from by omega] at f1
  refine call_pure f1 (by rfl) (by rfl) (by rfl) ?_
  generalize roots p.reverse m.toNat n.toNat old true = R
  obtain ⟨a, b, ok⟩ := R
  cases ok
  ·refine runf @a4' ?_
   exact ends_ret0 (by rfl) (by rfl) (by rfl)
  ·cases c1 : (a == old)
   ·refine runf (an @a4' @c1) ?_
    exact ends_ret0 (by rfl) (by rfl) (by rfl)
   ·refine runf (an @a4' @c1) ?_
    exact ends_ret0 (by rfl) (by rfl) (by rfl)
end Go.Proofs.YthbpbkbjdfcnjaaGreatDoor.Pe
