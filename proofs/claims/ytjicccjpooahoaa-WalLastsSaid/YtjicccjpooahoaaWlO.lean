/- Chapter 10's laws on plain values: WalLasts: one act. -/
import Derived.Test.YtjicccjpooahoaaWlJ
import Derived.Test.YtjicccjpooahoaaWlU
import Derived.Test.YtjicccjpooahoaaPeS2
set_option linter.unusedSectionVars false
set_option linter.unusedVariables false
set_option linter.unusedSimpArgs false
namespace Go.Proofs.Ytjicccjpooahoaa.Pe
open Go Go.RowKit Co Dm Wl
set_option maxRecDepth 100000
set_option maxHeartbeats 4000000
structure WAct where
 Do : Int
 S : By
 L : List By
 N : Int
 Keep : List Int
abbrev waV (a : WAct) : AV := .agg [.it .i64 a.Do, .st a.S, .sl .ro (a.L.map .st), .it .i64 a.N, ints .ro a.Keep]
abbrev hopeV (all safe fresh : List By) (tried : Bool) : AV := .agg [.sl .ro (all.map .st), .sl .ro (safe.map .st), .sl .ro (fresh.map .st), .bo tried]
abbrev aftV (safe' all safe fresh : List By) (tried : Bool) : AV := .tup [.sl .ro (safe'.map .st), hopeV all safe fresh tried]
theorem ends_retw {P : Program} [Tab] {rs : List ResultVar} {v : AV} {e : Env} {S S' : Store} {vs : List AV} {N0 : Nat} (κ : List Nat) (h : aRes P rs e S = some vs) (hs : SubOk κ S S') (hn : κ.take N0 = List.range N0) (hk : v.ok κ.length = true) (hv : (resV vs).wk = v.ren (idx κ)) : finQ P rs N0 v S' .ret e S :=
 ⟨e, S, vs, κ, Weak.refl N0 e S, h, hs, hn, hk, .inr hv⟩
theorem wallO_c (d : Dk) (f : Int) (rows : List By) (hr : rows.length ≤ 16777216) : AC Try.prog 21 [.ptr 1 0] (LG d f rows) (.sl (.own 3) (rows.map AV.st)) (LG d f rows ++ [.buf rows.length 9 1]) := by
 refine AC.enter2 [] [] Try.func21 rfl (by decide) (by decide) (Nat.le_of_ble_eq_true rfl) (by kernel_rfl) ?_; simp only [eraseC, eraseG, eraseO, List.map_cons, List.map_nil, List.map_toArray, List.getElem?_toArray, List.getElem?_cons_zero, List.getElem?_cons_succ, Option.bind_some, Option.bind_none, List.append_eq, List.cons_append, List.nil_append]
 refine run ?_
 refine call_mk (wcloneO_at rows hr _) ?_
 refine run ?_
 exact ends_ret (List.range 4) (by rfl) (subOk_same 4 rfl rfl rfl) (by rfl) (by rfl) (by rfl)
theorem lgb_ok (d : Dk) (n : Int) (rows : List By) : ∀ (i : Nat) (o : SObj), (LG d n rows ++ [.buf rows.length 9 1])[i]? = some o → o.ok 4 = true := fun i o hi => by
 match i, hi with
 | 0, hi => cases hi; rfl
 | 1, hi => cases hi; rfl
 | 2, hi => cases hi; rfl
 | 3, hi => cases hi; rfl
theorem set_self' {α : Type} {l : List α} {i : Nat} {x : α} (h : l[i]? = some x) : l.set i x = l := by
 refine List.ext_getElem? fun j => ?_
 by_cases e : i = j
 ·subst e
  rw [List.getElem?_set_self (List.getElem?_eq_some_iff.1 h).1, h]
 ·rw [List.getElem?_set_ne e]
theorem AC.la {T : Store} {d : Dk} {n : Int} {rows : List By} {a b c : Nat} (hl : LgAt T a b c d n rows) (hr : rows.length ≤ 16777216) : AC Try.prog 21 [.ptr b 0] T (.sl (.own T.length) (rows.map AV.st)) (T ++ [.buf rows.length 9 1]) := by
 have := (wallO_c d n rows hr).frame (T := T) [a, b, c] hl.sub rfl rfl (lgb_ok _ _ _)
 have e1 : (T.set a (XD d)) = T := set_self' hl.d0
 have e2 : (T.set b (.cells [.ptr a 0, .it .i64 n, .sl (.own c) (rows.map .st)])) = T := set_self' hl.l0
 have e3 : (T.set c (.buf rows.length 9 1)) = T := set_self' hl.r0
 simpa [after, setAll, ext, idx, SObj.ren, AV.r1, AV.r0, Mode.ren, AV.ren, AV.r2, e1, e2, e3] using this
theorem _root_.Go.Proofs.Ytjicccjpooahoaa.Wl.WS.pre_le {d : Dk} {R safe : List By} (h : WS d R safe) : safe.length ≤ R.length := by
 obtain ⟨t, ht⟩ := h.pre
 rw [ht, List.length_append]; omega
inductive Aft (R safe : List By) : AV → Store → Prop where
 | up (d : Dk) (R' safe' fresh : List By) (tried : Bool) (h : WS d R' safe') (hl : R'.length ≤ max (R.length + 1) 12) : Aft R safe (aftV safe' R' safe' fresh tried) (LG d 2 R')
 | new (d : Dk) (R' safe' fresh : List By) (tried : Bool) (h : WS d R' safe') (hl : R'.length ≤ max (R.length + 1) 12) : Aft R safe (aftV safe' R' safe' fresh tried) (LW d 2 R' R.length)
 | down (d : Dk) (R' safe' all sf fresh : List By) (tried : Bool) (h : Hp d all sf) (h1 : all.length ≤ R.length + 1) (h2 : sf.length ≤ R.length) (h3 : fresh.length ≤ 12) : Aft R safe (aftV safe' all sf fresh tried) (LG d 2 R')
theorem lg_any (d : Dk) (f : Int) (rows : List By) (T : Store) : SubOk (List.range 3) (LG d f rows ++ T) (LG d f rows) := subOk_pre (S := LG d f rows) (T := T) 3 rfl rfl
theorem aft_lose (d : Dk) (R safe : List By) (a : WAct) (q : Int) (hq : Go.bits .and .i64 a.Do 7 = q) (hw : WS d R safe) (hS : a.S.length ≤ 140737488355328) (hL : a.L.length ≤ 12) (hN : a.N ≤ 9223372036854775807) (hK : a.Keep.length ≤ 8) (hR : R.length ≤ 1000000) (h6 : q = 6) : ∃ v S', Aft R safe v S' ∧ AC Try.prog 27 [.ptr 0 0, .ptr 1 0, waV a, .sl .ro (safe.map .st)] (LG d 2 R) v S' := by
 subst h6
 have hw' := hw.lose a.N hN
 have hdn := hw'.up
 have kl := d_lose d a.N hN
 have kd := d_down (Dm.lose d a.N)
 rw [hdn] at kd
 refine ⟨_, _, .up _ _ _ [] false hw' (by omega), ?_⟩
 clear hw hw' hdn
 generalize Dm.lose d a.N = d' at *
 refine AC.enter2 [] [] Try.func27 rfl (by decide) (by decide) (Nat.le_of_ble_eq_true rfl) (by kernel_rfl) ?_; simp only [eraseC, eraseG, eraseO, List.map_cons, List.map_nil, List.map_toArray, List.getElem?_toArray, List.getElem?_cons_zero, List.getElem?_cons_succ, Option.bind_some, Option.bind_none, List.append_eq, List.cons_append, List.nil_append]
 refine runf @hq ?_
 refine call_mk (AC.la (a := 0) (b := 1) (c := 2) (d := d) (n := 2) (rows := R) ⟨by decide, by decide, by decide, rfl, rfl, rfl⟩ (by omega)) ?_
 refine runf @hq ?_
 refine c1 0 kl ?_
 refine runf @hq ?_
 refine c1 0 kd ?_
 refine run ?_
 exact ends_retw (List.range 3) (by rfl) (lg_any _ _ _ _) (by rfl) (by rfl) (by rfl)
theorem aft_arm (d : Dk) (R safe : List By) (a : WAct) (q : Int) (hq : Go.bits .and .i64 a.Do 7 = q) (hw : WS d R safe) (hS : a.S.length ≤ 140737488355328) (hL : a.L.length ≤ 12) (hN : a.N ≤ 9223372036854775807) (hK : a.Keep.length ≤ 8) (hR : R.length ≤ 1000000) (h7 : q = 7) : ∃ v S', Aft R safe v S' ∧ AC Try.prog 27 [.ptr 0 0, .ptr 1 0, waV a, .sl .ro (safe.map .st)] (LG d 2 R) v S' := by
 subst h7
 have hw' := hw.arm a.N hN a.Keep
 have hdn := hw'.up
 have kl := d_arm d a.N hN .ro a.Keep (by omega)
 have kd := d_down (Dm.armD d a.N a.Keep)
 rw [hdn] at kd
 refine ⟨_, _, .up _ _ _ [] false hw' (by omega), ?_⟩
 clear hw hw' hdn
 generalize Dm.armD d a.N a.Keep = d' at *
 refine AC.enter2 [] [] Try.func27 rfl (by decide) (by decide) (Nat.le_of_ble_eq_true rfl) (by kernel_rfl) ?_; simp only [eraseC, eraseG, eraseO, List.map_cons, List.map_nil, List.map_toArray, List.getElem?_toArray, List.getElem?_cons_zero, List.getElem?_cons_succ, Option.bind_some, Option.bind_none, List.append_eq, List.cons_append, List.nil_append]
 refine runf @hq ?_
 refine call_mk (AC.la (a := 0) (b := 1) (c := 2) (d := d) (n := 2) (rows := R) ⟨by decide, by decide, by decide, rfl, rfl, rfl⟩ (by omega)) ?_
 refine runf @hq ?_
 refine c1 0 kl ?_
 refine runf @hq ?_
 refine c1 0 kd ?_
 refine run ?_
 exact ends_retw (List.range 3) (by rfl) (lg_any _ _ _ _) (by rfl) (by rfl) (by rfl)
theorem aft_flush (d : Dk) (R safe : List By) (a : WAct) (q : Int) (hq : Go.bits .and .i64 a.Do 7 = q) (hw : WS d R safe) (hS : a.S.length ≤ 140737488355328) (hL : a.L.length ≤ 12) (hN : a.N ≤ 9223372036854775807) (hK : a.Keep.length ≤ 8) (hR : R.length ≤ 1000000) (h3 : q = 3) : ∃ v S', Aft R safe v S' ∧ AC Try.prog 27 [.ptr 0 0, .ptr 1 0, waV a, .sl .ro (safe.map .st)] (LG d 2 R) v S' := by
 subst h3
 have kl := wflush_c d 2 R
 rcases hw.flush2 with ⟨h1, h2⟩ | ⟨h1, h2⟩ | ⟨h1, h2⟩
 ·have hdn := h2.down
  have kd := d_down (flushD d 2).2
  rw [hdn] at kd
  rw [h1] at kl
  refine ⟨_, _, .down _ R safe _ _ [] false h2 (by simp) hw.pre_le (by simp), ?_⟩
  clear hw h2 hdn h1
  generalize (flushD d 2).2 = d' at *
  refine AC.enter2 [] [] Try.func27 rfl (by decide) (by decide) (Nat.le_of_ble_eq_true rfl) (by kernel_rfl) ?_; simp only [eraseC, eraseG, eraseO, List.map_cons, List.map_nil, List.map_toArray, List.getElem?_toArray, List.getElem?_cons_zero, List.getElem?_cons_succ, Option.bind_some, Option.bind_none, List.append_eq, List.cons_append, List.nil_append]
  refine runf @hq ?_
  refine call_mk (AC.la (a := 0) (b := 1) (c := 2) (d := d) (n := 2) (rows := R) ⟨by decide, by decide, by decide, rfl, rfl, rfl⟩ (by omega)) ?_
  refine runf @hq ?_
  refine clg 0 1 2 kl ?_
  refine runf @hq ?_
  refine c1 0 kd ?_
  refine run ?_
  exact ends_retw (List.range 3) (by rfl) (lg_any _ _ _ _) (by rfl) (by rfl) (by rfl)
 ·have hdn := h2.up
  have kd := d_down (flushD d 2).2
  rw [hdn] at kd
  rw [h1] at kl
  refine ⟨_, _, .up _ R R [] false h2 (by omega), ?_⟩
  clear hw h2 hdn h1
  generalize (flushD d 2).2 = d' at *
  refine AC.enter2 [] [] Try.func27 rfl (by decide) (by decide) (Nat.le_of_ble_eq_true rfl) (by kernel_rfl) ?_; simp only [eraseC, eraseG, eraseO, List.map_cons, List.map_nil, List.map_toArray, List.getElem?_toArray, List.getElem?_cons_zero, List.getElem?_cons_succ, Option.bind_some, Option.bind_none, List.append_eq, List.cons_append, List.nil_append]
  refine runf @hq ?_
  refine call_mk (AC.la (a := 0) (b := 1) (c := 2) (d := d) (n := 2) (rows := R) ⟨by decide, by decide, by decide, rfl, rfl, rfl⟩ (by omega)) ?_
  refine runf @hq ?_
  refine clg 0 1 2 kl ?_
  refine runf @hq ?_
  refine call_mk (AC.la (a := 0) (b := 1) (c := 2) (d := d') (n := 2) (rows := R) ⟨by decide, by decide, by decide, rfl, rfl, rfl⟩ (by omega)) ?_
  refine runf @hq ?_
  refine c1 0 kd ?_
  refine run ?_
  exact ends_retw (List.range 3) (by rfl) (lg_any _ _ _ _) (by rfl) (by rfl) (by rfl)
 ·have hdn := h2.up
  have kd := d_down (flushD d 2).2
  rw [hdn] at kd
  rw [h1] at kl
  refine ⟨_, _, .up _ R safe [] false h2 (by omega), ?_⟩
  clear hw h2 hdn h1
  generalize (flushD d 2).2 = d' at *
  refine AC.enter2 [] [] Try.func27 rfl (by decide) (by decide) (Nat.le_of_ble_eq_true rfl) (by kernel_rfl) ?_; simp only [eraseC, eraseG, eraseO, List.map_cons, List.map_nil, List.map_toArray, List.getElem?_toArray, List.getElem?_cons_zero, List.getElem?_cons_succ, Option.bind_some, Option.bind_none, List.append_eq, List.cons_append, List.nil_append]
  refine runf @hq ?_
  refine call_mk (AC.la (a := 0) (b := 1) (c := 2) (d := d) (n := 2) (rows := R) ⟨by decide, by decide, by decide, rfl, rfl, rfl⟩ (by omega)) ?_
  refine runf @hq ?_
  refine clg 0 1 2 kl ?_
  refine runf @hq ?_
  refine c1 0 kd ?_
  refine run ?_
  exact ends_retw (List.range 3) (by rfl) (lg_any _ _ _ _) (by rfl) (by rfl) (by rfl)
theorem aft_add (d : Dk) (R safe : List By) (a : WAct) (q : Int) (hq : Go.bits .and .i64 a.Do 7 = q) (hw : WS d R safe) (hS : a.S.length ≤ 140737488355328) (hL : a.L.length ≤ 12) (hN : a.N ≤ 9223372036854775807) (hK : a.Keep.length ≤ 8) (hR : R.length ≤ 1000000) (hq3 : q = 0 ∨ q = 1 ∨ q = 2) : ∃ v S', Aft R safe v S' ∧ AC Try.prog 27 [.ptr 0 0, .ptr 1 0, waV a, .sl .ro (safe.map .st)] (LG d 2 R) v S' := by
 have kl := wadd_c d 2 R a.S hS (by omega)
 rcases hw.add a.S with ⟨h1, h2⟩ | ⟨h1, h2⟩ | ⟨h1, h3, h2⟩
 ·have hdn := h2.down
  have kd := d_down (addD d 2 a.S).2
  rw [hdn] at kd
  rw [h1, if_neg (by decide)] at kl
  refine ⟨_, _, .down _ R safe _ _ [] false h2 (by simp) hw.pre_le (by simp), ?_⟩
  clear hw h2 hdn h1
  generalize (addD d 2 a.S).2 = d' at *
  have em : (R ++ [a.S]).map AV.st = R.map AV.st ++ [AV.st a.S] := by simp
  unfold aftV hopeV
  rw [em]
  clear em
  rcases hq3 with rfl | rfl | rfl
  all_goals
  refine AC.enter2 [] [] Try.func27 rfl (by decide) (by decide) (Nat.le_of_ble_eq_true rfl) (by kernel_rfl) ?_; simp only [eraseC, eraseG, eraseO, List.map_cons, List.map_nil, List.map_toArray, List.getElem?_toArray, List.getElem?_cons_zero, List.getElem?_cons_succ, Option.bind_some, Option.bind_none, List.append_eq, List.cons_append, List.nil_append]
  refine runf @hq ?_
  refine call_mk (AC.la (a := 0) (b := 1) (c := 2) (d := d) (n := 2) (rows := R) ⟨by decide, by decide, by decide, rfl, rfl, rfl⟩ (by omega)) ?_
  refine runf @hq ?_
  refine clg 0 1 2 kl ?_
  refine runf @hq ?_
  refine c1 0 kd ?_
  refine run ?_
  exact ends_retw (List.range 3) (by rfl) (lg_any _ _ _ _) (by rfl) (by rfl) (by rfl)
 ·have hdn := h2.up
  have kd := d_down (addD d 2 a.S).2
  rw [hdn] at kd
  rw [h1, if_pos rfl] at kl
  have hl1 : (R ++ [a.S]).length = R.length + 1 := by simp
  refine ⟨_, _, .up _ (R ++ [a.S]) safe [] false h2 (by omega), ?_⟩
  clear hw h2 hdn h1
  generalize (addD d 2 a.S).2 = d' at *
  generalize R ++ [a.S] = R1 at *
  rcases hq3 with rfl | rfl | rfl
  all_goals
  refine AC.enter2 [] [] Try.func27 rfl (by decide) (by decide) (Nat.le_of_ble_eq_true rfl) (by kernel_rfl) ?_; simp only [eraseC, eraseG, eraseO, List.map_cons, List.map_nil, List.map_toArray, List.getElem?_toArray, List.getElem?_cons_zero, List.getElem?_cons_succ, Option.bind_some, Option.bind_none, List.append_eq, List.cons_append, List.nil_append]
  refine runf @hq ?_
  refine call_mk (AC.la (a := 0) (b := 1) (c := 2) (d := d) (n := 2) (rows := R) ⟨by decide, by decide, by decide, rfl, rfl, rfl⟩ (by omega)) ?_
  refine runf @hq ?_
  refine clg 0 1 2 kl ?_
  refine runf @hq ?_
  refine call_mk (AC.la (a := 0) (b := 1) (c := 2) (d := d') (n := 2) (rows := R1) ⟨by decide, by decide, by decide, rfl, rfl, rfl⟩ (by omega)) ?_
  refine runf @hq ?_
  refine c1 0 kd ?_
  refine run ?_
  exact ends_retw (List.range 3) (by rfl) (lg_any _ _ _ _) (by rfl) (by rfl) (by rfl)
 ·have hdn := h2.up
  have kd := d_down (addD d 2 a.S).2
  rw [hdn] at kd
  rw [if_neg h3] at kl
  refine ⟨_, _, .up _ R safe [] false h2 (by omega), ?_⟩
  clear hw h2 hdn
  generalize (addD d 2 a.S).2 = d' at *
  generalize (addD d 2 a.S).1 = e at *
  rcases hq3 with rfl | rfl | rfl
  all_goals
  refine AC.enter2 [] [] Try.func27 rfl (by decide) (by decide) (Nat.le_of_ble_eq_true rfl) (by kernel_rfl) ?_; simp only [eraseC, eraseG, eraseO, List.map_cons, List.map_nil, List.map_toArray, List.getElem?_toArray, List.getElem?_cons_zero, List.getElem?_cons_succ, Option.bind_some, Option.bind_none, List.append_eq, List.cons_append, List.nil_append]
  refine runf @hq ?_
  refine call_mk (AC.la (a := 0) (b := 1) (c := 2) (d := d) (n := 2) (rows := R) ⟨by decide, by decide, by decide, rfl, rfl, rfl⟩ (by omega)) ?_
  refine runf @hq ?_
  refine clg 0 1 2 kl ?_
  have e8 : ¬ e = 8 := h1
  refine runf (an @hq @e8) ?_
  refine call_mk (AC.la (a := 0) (b := 1) (c := 2) (d := d') (n := 2) (rows := R) ⟨by decide, by decide, by decide, rfl, rfl, rfl⟩ (by omega)) ?_
  refine runf @hq ?_
  refine c1 0 kd ?_
  refine run ?_
  exact ends_retw (List.range 3) (by rfl) (lg_any _ _ _ _) (by rfl) (by rfl) (by rfl)
theorem lw_any (d : Dk) (f : Int) (rows : List By) (k : Nat) (A B C D : SObj) (T : Store) : SubOk [0, 1, 2, 7] (XD d :: .cells [.ptr 0 0, .it .i64 f, .sl (.own 7) (rows.map .st)] :: .buf k 9 1 :: A :: B :: C :: D :: .buf rows.length 9 1 :: T) (LW d f rows k) := ⟨by decide, rfl, fun i o hi => by
 match i, hi with
 | 0, hi => cases hi; exact ⟨rfl, rfl⟩
 | 1, hi => cases hi; exact ⟨rfl, rfl⟩
 | 2, hi => cases hi; exact ⟨rfl, rfl⟩
 | 3, hi => cases hi; exact ⟨rfl, rfl⟩⟩
theorem aft_rew (d : Dk) (R safe : List By) (a : WAct) (q : Int) (hq : Go.bits .and .i64 a.Do 7 = q) (hw : WS d R safe) (hS : a.S.length ≤ 140737488355328) (hL : a.L.length ≤ 12) (hN : a.N ≤ 9223372036854775807) (hK : a.Keep.length ≤ 8) (hR : R.length ≤ 1000000) (h5 : q = 5) : ∃ v S', Aft R safe v S' ∧ AC Try.prog 27 [.ptr 0 0, .ptr 1 0, waV a, .sl .ro (safe.map .st)] (LG d 2 R) v S' := by
 subst h5
 rcases hw.rewrite a.L with ⟨h1, h2⟩ | ⟨h1, h2⟩ | ⟨h1, h3, h2⟩
 ·have kl := wrew_c d 2 R a.L (by decide) (by omega) _ (fun h => by rw [h1] at h; exact absurd h (by decide)) (fun _ => rfl)
  have hdn := h2.down
  have kd := d_down (rewriteD d 2 a.L).2
  rw [hdn] at kd
  rw [h1] at kl
  refine ⟨_, _, .down _ R safe _ _ a.L true h2 (by simp) hw.pre_le hL, ?_⟩
  clear hw h2 hdn h1
  generalize (rewriteD d 2 a.L).2 = d' at *
  refine AC.enter2 [] [] Try.func27 rfl (by decide) (by decide) (Nat.le_of_ble_eq_true rfl) (by kernel_rfl) ?_; simp only [eraseC, eraseG, eraseO, List.map_cons, List.map_nil, List.map_toArray, List.getElem?_toArray, List.getElem?_cons_zero, List.getElem?_cons_succ, Option.bind_some, Option.bind_none, List.append_eq, List.cons_append, List.nil_append]
  refine runf @hq ?_
  refine call_mk (AC.la (a := 0) (b := 1) (c := 2) (d := d) (n := 2) (rows := R) ⟨by decide, by decide, by decide, rfl, rfl, rfl⟩ (by omega)) ?_
  refine runf @hq ?_
  refine clg 0 1 2 kl ?_
  refine runf @hq ?_
  refine c1 0 kd ?_
  refine run ?_
  exact ends_retw (List.range 3) (by rfl) (lg_any _ _ _ _) (by rfl) (by rfl) (by rfl)
 ·have kl := wrew_c d 2 R a.L (by decide) (by omega) _ (fun _ => rfl) (fun h => absurd h1 h)
  have hdn := h2.up
  have kd := d_down (rewriteD d 2 a.L).2
  rw [hdn] at kd
  rw [h1] at kl
  refine ⟨_, _, .new _ a.L a.L a.L false h2 (by omega), ?_⟩
  clear hw h2 hdn h1
  generalize (rewriteD d 2 a.L).2 = d' at *
  refine AC.enter2 [] [] Try.func27 rfl (by decide) (by decide) (Nat.le_of_ble_eq_true rfl) (by kernel_rfl) ?_; simp only [eraseC, eraseG, eraseO, List.map_cons, List.map_nil, List.map_toArray, List.getElem?_toArray, List.getElem?_cons_zero, List.getElem?_cons_succ, Option.bind_some, Option.bind_none, List.append_eq, List.cons_append, List.nil_append]
  refine runf @hq ?_
  refine call_mk (AC.la (a := 0) (b := 1) (c := 2) (d := d) (n := 2) (rows := R) ⟨by decide, by decide, by decide, rfl, rfl, rfl⟩ (by omega)) ?_
  refine runf @hq ?_
  refine clw 0 1 2 kl ?_
  refine runf @hq ?_
  refine call_mk (AC.la (a := 0) (b := 1) (c := 7) (d := d') (n := 2) (rows := a.L) ⟨by decide, by decide, by decide, rfl, rfl, rfl⟩ (by omega)) ?_
  refine runf @hq ?_
  refine call_mk (AC.la (a := 0) (b := 1) (c := 7) (d := d') (n := 2) (rows := a.L) ⟨by decide, by decide, by decide, rfl, rfl, rfl⟩ (by omega)) ?_
  refine runf @hq ?_
  refine c1 0 kd ?_
  refine run ?_
  exact ends_retw [0, 1, 2, 7] (by rfl) (lw_any _ _ _ _ _ _ _ _ _) (by rfl) (by rfl) (by rfl)
 ·have kl := wrew_c d 2 R a.L (by decide) (by omega) _ (fun h => absurd h h3) (fun _ => rfl)
  have hdn := h2.up
  have kd := d_down (rewriteD d 2 a.L).2
  rw [hdn] at kd
  refine ⟨_, _, .up _ R safe a.L false h2 (by omega), ?_⟩
  clear hw h2 hdn
  generalize (rewriteD d 2 a.L).2 = d' at *
  generalize (rewriteD d 2 a.L).1 = e at *
  have e8 : ¬ e = 8 := h1
  have e9 : ¬ e = 0 := h3
  have e10 : decide (e = 8) = false := decide_eq_false h1
  have e11 : (e == 8) = false := by simpa using h1
  refine AC.enter2 [] [] Try.func27 rfl (by decide) (by decide) (Nat.le_of_ble_eq_true rfl) (by kernel_rfl) ?_; simp only [eraseC, eraseG, eraseO, List.map_cons, List.map_nil, List.map_toArray, List.getElem?_toArray, List.getElem?_cons_zero, List.getElem?_cons_succ, Option.bind_some, Option.bind_none, List.append_eq, List.cons_append, List.nil_append]
  refine runf @hq ?_
  refine call_mk (AC.la (a := 0) (b := 1) (c := 2) (d := d) (n := 2) (rows := R) ⟨by decide, by decide, by decide, rfl, rfl, rfl⟩ (by omega)) ?_
  refine runf @hq ?_
  refine clg 0 1 2 kl ?_
  refine runf (an @hq (an @e8 (an @e9 (an @e10 @e11)))) ?_
  refine c1 0 kd ?_
  refine run ?_
  exact ends_retw (List.range 3) (by rfl) (lg_any _ _ _ _) (by rfl) (by rfl) (by rfl)
theorem aft_none (d : Dk) (R safe : List By) (a : WAct) (q : Int) (hq : Go.bits .and .i64 a.Do 7 = q) (hw : WS d R safe) (hS : a.S.length ≤ 140737488355328) (hL : a.L.length ≤ 12) (hN : a.N ≤ 9223372036854775807) (hK : a.Keep.length ≤ 8) (hR : R.length ≤ 1000000) (n0 : ¬ q = 0) (n1 : ¬ q = 1) (n2 : ¬ q = 2) (n3 : ¬ q = 3) (n5 : ¬ q = 5) (n6 : ¬ q = 6) (n7 : ¬ q = 7) : ∃ v S', Aft R safe v S' ∧ AC Try.prog 27 [.ptr 0 0, .ptr 1 0, waV a, .sl .ro (safe.map .st)] (LG d 2 R) v S' := by
 have hdn := hw.up
 have kd := d_down d
 rw [hdn] at kd
 refine ⟨_, _, .up _ _ _ [] false hw (by omega), ?_⟩
 clear hw hdn
 refine AC.enter2 [] [] Try.func27 rfl (by decide) (by decide) (Nat.le_of_ble_eq_true rfl) (by kernel_rfl) ?_; simp only [eraseC, eraseG, eraseO, List.map_cons, List.map_nil, List.map_toArray, List.getElem?_toArray, List.getElem?_cons_zero, List.getElem?_cons_succ, Option.bind_some, Option.bind_none, List.append_eq, List.cons_append, List.nil_append]
 refine runf @hq ?_
 refine call_mk (AC.la (a := 0) (b := 1) (c := 2) (d := d) (n := 2) (rows := R) ⟨by decide, by decide, by decide, rfl, rfl, rfl⟩ (by omega)) ?_
 refine runf (an @hq (an @n0 (an @n1 (an @n2 (an @n3 (an @n5 (an @n6 @n7))))))) ?_
 refine c1 0 kd ?_
 refine run ?_
 exact ends_retw (List.range 3) (by rfl) (lg_any _ _ _ _) (by rfl) (by rfl) (by rfl)
theorem aft_c (d : Dk) (R safe : List By) (a : WAct) (hw : WS d R safe) (hS : a.S.length ≤ 140737488355328) (hL : a.L.length ≤ 12) (hN : a.N ≤ 9223372036854775807) (hK : a.Keep.length ≤ 8) (hR : R.length ≤ 1000000) : ∃ v S', Aft R safe v S' ∧ AC Try.prog 27 [.ptr 0 0, .ptr 1 0, waV a, .sl .ro (safe.map .st)] (LG d 2 R) v S' := by
 by_cases n0 : Go.bits .and .i64 a.Do 7 = 0
 ·exact aft_add d R safe a _ rfl hw hS hL hN hK hR (.inl n0)
 by_cases n1 : Go.bits .and .i64 a.Do 7 = 1
 ·exact aft_add d R safe a _ rfl hw hS hL hN hK hR (.inr (.inl n1))
 by_cases n2 : Go.bits .and .i64 a.Do 7 = 2
 ·exact aft_add d R safe a _ rfl hw hS hL hN hK hR (.inr (.inr n2))
 by_cases n3 : Go.bits .and .i64 a.Do 7 = 3
 ·exact aft_flush d R safe a _ rfl hw hS hL hN hK hR n3
 by_cases n5 : Go.bits .and .i64 a.Do 7 = 5
 ·exact aft_rew d R safe a _ rfl hw hS hL hN hK hR n5
 by_cases n6 : Go.bits .and .i64 a.Do 7 = 6
 ·exact aft_lose d R safe a _ rfl hw hS hL hN hK hR n6
 by_cases n7 : Go.bits .and .i64 a.Do 7 = 7
 ·exact aft_arm d R safe a _ rfl hw hS hL hN hK hR n7
 exact aft_none d R safe a _ rfl hw hS hL hN hK hR n0 n1 n2 n3 n5 n6 n7
inductive AftH (R safe : List By) (hc : List AV) : AV → Store → Prop where
 | up (d : Dk) (R' safe' fresh : List By) (tried : Bool) (h : WS d R' safe') (hl : R'.length ≤ max (R.length + 1) 12) : AftH R safe hc (aftV safe' R' safe' fresh tried) (LG d 2 R' ++ [.cells hc])
 | new (d : Dk) (R' safe' fresh : List By) (tried : Bool) (h : WS d R' safe') (hl : R'.length ≤ max (R.length + 1) 12) : AftH R safe hc (aftV safe' R' safe' fresh tried) [XD d, .cells [.ptr 0 0, .it .i64 2, .sl (.own 4) (R'.map .st)], .buf R.length 9 1, .cells hc, .buf R'.length 9 1]
 | down (d : Dk) (R' safe' all sf fresh : List By) (tried : Bool) (h : Hp d all sf) (h1 : all.length ≤ R.length + 1) (h2 : sf.length ≤ R.length) (h3 : fresh.length ≤ 12) : AftH R safe hc (aftV safe' all sf fresh tried) (LG d 2 R' ++ [.cells hc])
theorem aft_h (d : Dk) (R safe : List By) (a : WAct) (hc : List AV) (hw : WS d R safe) (hS : a.S.length ≤ 140737488355328) (hL : a.L.length ≤ 12) (hN : a.N ≤ 9223372036854775807) (hK : a.Keep.length ≤ 8) (hR : R.length ≤ 1000000) :
  ∃ v S', AftH R safe hc v S' ∧ AC Try.prog 27 [.ptr 0 0, .ptr 1 0, waV a, .sl .ro (safe.map .st)] (LG d 2 R ++ [.cells hc]) v S' := by
 obtain ⟨v, S', hA, h⟩ := aft_c d R safe a hw hS hL hN hK hR
 cases hA with
 | up d' R' safe' fresh tried h1 h2 =>
  exact ⟨_, _, .up d' R' safe' fresh tried h1 h2, (by have q := h.frame (T := (LG d 2 R ++ [SObj.cells hc] : Store)) (List.range 3) (lg_any d 2 R [.cells hc]) (by rfl) (by rfl) (lg_ok _ _ _); exact q)⟩
 | down d' R' safe' all sf fresh tried h1 h2 h3 h4 =>
  exact ⟨_, _, .down d' R' safe' all sf fresh tried h1 h2 h3 h4, (by have q := h.frame (T := (LG d 2 R ++ [SObj.cells hc] : Store)) (List.range 3) (lg_any d 2 R [.cells hc]) (by rfl) (by rfl) (lg_ok _ _ _); exact q)⟩
 | new d' R' safe' fresh tried h1 h2 =>
  exact ⟨_, _, .new d' R' safe' fresh tried h1 h2, (by have q := h.frame (T := (LG d 2 R ++ [SObj.cells hc] : Store)) (List.range 3) (lg_any d 2 R [.cells hc]) (by rfl) (by rfl) (lw_ok _ _ _ _); exact q)⟩
end Go.Proofs.Ytjicccjpooahoaa.Pe
