/- The walk of package item on plain values: the builder of encodings; messages; bytes. Printed by tools/mkitb.py. -/
import Derived.Test.YtnjjldhcpiehkaaGreatDoorItA
import Derived.Test.YtnjjldhcpiehkaaGreatDoorPeX
namespace Go.Proofs.YtnjjldhcpiehkaaGreatDoor.Pe
set_option linter.unusedSectionVars false
set_option linter.unusedVariables false
set_option linter.unusedSimpArgs false
open Go Go.RowKit Co Sg Ac It
set_option maxRecDepth 100000
set_option maxHeartbeats 4000000
/-- a slice without room in a struct of one field, as a row of its own -/
theorem Weak.reserveC [Tab] (N0 : Nat) {e : Env} {S : Store} (l : Nat) {es : List AV} (hS : S[l]? = some (.cells [.sl .full es])) (ty : TypeId) (sz : Nat) : Weak N0 e S e (S.set l (.cells [.sl (.own S.length) es]) ++ [.buf es.length ty sz]) := by
  rintro N w0 g0 a w hn ⟨h1, h2, g, h3, h4, h5⟩
  obtain ⟨g', h6, h7, h8, h9, h10⟩ := h3.reserve es.length ty sz
  have hlS := (List.getElem?_eq_some_iff.1 hS).1
  have hn3 := h3.nid
  have hn6 := h6.nid
  rw [List.length_append, List.length_singleton] at hn6
  refine ⟨h1, h2, g', ⟨by rw [List.length_append, List.length_set, List.length_singleton]; exact hn6, fun k o hk => ?_, h6.disj, h6.lt, h6.tab⟩, fun t => (h4 t).le h7.toLe, h5.trans h7⟩
  by_cases hkl : k = l
  · subst hkl
    rw [List.getElem?_append_left (by rw [List.length_set]; exact hlS), List.getElem?_set_self hlS] at hk
    cases hk
    obtain ⟨k1, k2, k3, arr, T, fr, k4, k5, k6, k7, k8⟩ := h6.obj k (.cells [.sl .full es]) (get_app hS _)
    refine ⟨k1, k2, k3, arr, T, fr, k4, k5, by simpa using k6, k7, fun j u v hu hv => ?_⟩
    cases j with
    | zero =>
      simp only [List.getElem?_cons_zero, Option.some.injEq] at hu
      subst hu
      refine (k8 0 _ v rfl hv).own_full (by omega) ?_ ?_
      · rw [← hn3]; exact h9
      · rw [← hn3]; exact h10
    | succ j => simp at hu
  · refine h6.obj k o ?_
    by_cases hkS : k < S.length
    · rw [List.getElem?_append_left (by rw [List.length_set]; exact hkS), List.getElem?_set_ne (Ne.symm hkl)] at hk
      rw [List.getElem?_append_left hkS]
      exact hk
    · rw [List.getElem?_append_right (by rw [List.length_set]; omega), List.length_set] at hk
      rw [List.getElem?_append_right (by omega)]
      exact hk
/-- a builder that holds bytes -/
abbrev BV (ty : TypeId) (acc : By) : Store := [.cells [.sl (.own 1) (acc.map u8)], .buf acc.length ty 1]
section
variable [Tab] {P : Program} {pf rf : List FuncId} {e : Env} {f : FuncId} {d : Option Nat} {rest : List AO} {K : Env → Store → Prop}
theorem bren {es : List AV} (ρ : Nat → Nat) : (SObj.cells [.sl (.own 1) es]).ren ρ = .cells [.sl (.own (ρ 1)) es] := rfl
theorem cb {args gargs : List AV} {T : Store} {acc acc' : By} {v : AV} {ty : TypeId} (l l' : Nat) (h : AC P f (.ptr 0 0 :: args) (BV ty acc) v (BV ty acc'))
    (h' : ARg P pf rf rest (put e d v) ((T.set l (.cells [.sl (.own l') (acc'.map u8)])).set l' (.buf acc'.length ty 1)) K)
    (ha : args.all (AV.ok 0) = true := by rfl) (hv : v.ok 0 = true := by rfl) (hne : l ≠ l' := by decide) (hT : T[l]? = some (.cells [.sl (.own l') (acc.map u8)]) := by rfl) (hT' : T[l']? = some (.buf acc.length ty 1) := by rfl)
    (hg : gargs.map AV.wk = .ptr l 0 :: args := by rfl) : callP (AnyC P f gargs T) (ARgk P pf rf d rest e K) := by
  refine call_mk (show AC P f (gargs.map AV.wk) T v _ from ?_) h'
  rw [hg]
  have ha1 : ∀ u ∈ args, u.ok 2 = true := fun u hu => ok_mono (List.all_eq_true.1 ha u hu) (Nat.zero_le 2)
  have := h.frame (T := T) [l, l'] (subOk_two l l' hne rfl rfl hT hT') (by simp only [List.all_cons, Bool.and_eq_true]; exact ⟨rfl, List.all_eq_true.2 ha1⟩) (ok_mono hv (Nat.zero_le 2)) (fun i o hi => by
    match i, hi with
    | 0, hi => cases hi; rfl
    | 1, hi => cases hi; rfl)
  rw [List.map_cons, ren_all ha, ren_id hv (fun i hi => absurd hi (Nat.not_lt_zero _))] at this
  simpa [after, setAll, ext, idx, SObj.ren, AV.r1, AV.r0, Mode.ren, AV.ren, AV.r2] using this
theorem cb0 {args gargs : List AV} {T : Store} {acc' : By} {v : AV} {ty : TypeId} (l : Nat) (h : AC P f (.ptr 0 0 :: args) [.cells [.sl .full []]] v (BV ty acc'))
    (h' : ARg P pf rf rest (put e d v) (T.set l (.cells [.sl (.own T.length) (acc'.map u8)]) ++ [.buf acc'.length ty 1]) K)
    (ha : args.all (AV.ok 0) = true := by rfl) (hv : v.ok 0 = true := by rfl) (hT : T[l]? = some (.cells [.sl .full []]) := by rfl)
    (hg : gargs.map AV.wk = .ptr l 0 :: args := by rfl) : callP (AnyC P f gargs T) (ARgk P pf rf d rest e K) := by
  refine call_mk (show AC P f (gargs.map AV.wk) T v _ from ?_) h'
  rw [hg]
  have ha1 : ∀ u ∈ args, u.ok 1 = true := fun u hu => ok_mono (List.all_eq_true.1 ha u hu) (Nat.zero_le 1)
  have := h.frame (T := T) [l] (subOk_one l rfl hT) (by simp only [List.all_cons, Bool.and_eq_true]; exact ⟨rfl, List.all_eq_true.2 ha1⟩) (ok_mono hv (Nat.zero_le 2)) (fun i o hi => by
    match i, hi with
    | 0, hi => cases hi; rfl
    | 1, hi => cases hi; rfl)
  rw [List.map_cons, ren_all ha, ren_id hv (fun i hi => absurd hi (Nat.not_lt_zero _))] at this
  simpa [after, setAll, ext, idx, SObj.ren, AV.r1, AV.r0, Mode.ren, AV.ren, AV.r2] using this
/-- the end of a call of two places -/
theorem en2 {rs : List ResultVar} {v : AV} {S : Store} {o o' : SObj} {vs : List AV} {N0 : Nat} (hn : [0, 1].take N0 = List.range N0) (h : aRes P rs e S = some vs := by rfl) (ho : o.ok 2 = true := by rfl) (ho' : o'.ok 2 = true := by rfl)
    (hS : S[0]? = some (o.ren (idx [0, 1])) := by rfl) (hS' : S[1]? = some (o'.ren (idx [0, 1])) := by rfl) (hk : v.ok 2 = true := by rfl) (hv : resV vs = v.ren (idx [0, 1]) := by rfl) : finQ P rs N0 v [o, o'] .norm e S :=
  ⟨e, S, vs, [0, 1], Weak.refl N0 e S, h, subOk_two 0 1 (by decide) ho ho' hS hS', hn, hk, .inl hv⟩
end
theorem bv_app (ty : TypeId) (a b : By) : [SObj.cells [.sl (.own 1) (a.map u8 ++ b.map u8)], .buf (a.length + b.length) ty 1] = BV ty (a ++ b) := by
  show _ = [SObj.cells [.sl (.own 1) ((a ++ b).map u8)], .buf (a ++ b).length ty 1]
  rw [List.map_append, List.length_append]
theorem flat_step {α : Type} (g : α → By) {l : List α} {k : Nat} (hk : k < l.length) : ((l.take (k + 1)).map g).flatten = ((l.take k).map g).flatten ++ g l[k] := by
  rw [List.take_succ_eq_append_getElem hk, List.map_append, List.flatten_append]
  congr 1
  exact List.append_nil _
theorem flat_bound {α : Type} (g : α → By) (l : List α) (B k : Nat) (h : ∀ x ∈ l, (g x).length ≤ B) : ((l.take k).map g).flatten.length ≤ k * B := by
  induction l generalizing k with
  | nil => simp
  | cons a l ih =>
    cases k with
    | zero => simp
    | succ k =>
      have h1 := h a (by simp)
      have h2 := ih k fun x hx => h x (by simp [hx])
      simp only [List.take_succ_cons, List.map_cons, List.flatten_cons, List.length_append, Nat.succ_mul]
      omega
theorem nums_c (l : List Int) (acc : By) (hl : l.length ≤ 100) (h : ∀ x ∈ l, -9223372036854775808 ≤ x ∧ x ≤ 9223372036854775807) (hac : acc.length ≤ 1000000000) : AC Tryz.prog 49 [.ptr 0 0, .sl .ro (l.map (AV.it .i64))] (BV 5 acc) (.tup []) (BV 5 (acc ++ (l.map numI).flatten)) := by
  refine AC.enter [23] [] Tryz.func49 rfl (by decide) (by decide) (Nat.le_of_ble_eq_true rfl) (by kernel_rfl) ?_; simp only [eraseC, eraseO, List.map_cons, List.map_nil, List.map_toArray, List.getElem?_toArray, List.getElem?_cons_zero, List.getElem?_cons_succ, Option.bind_some, Option.bind_none, List.append_eq, List.cons_append, List.nil_append]
  refine run ?_
  refine loop_mk' (fun m e S => e 0 = .ptr 0 0 ∧ e 6 = .sl .ro (l.map (AV.it .i64)) ∧ e 7 = .it .i64 (l.length : Int) ∧ ∃ (k : Nat) (cur : By), e 8 = .it .i64 (k : Int) ∧ S = BV 5 cur ∧ cur = acc ++ ((l.take k).map numI).flatten ∧ k ≤ l.length ∧ m = l.length - k) l.length _ _ (Weak.refl 2 _ _)
    ⟨(by first | rfl | (simp only [↓upd_apply, ↓put_some, ↓reduceIte, Nat.reduceEqDiff, ↓argEnv_zero, ↓argEnv_succ, *]; done)), (by first | rfl | (simp only [↓upd_apply, ↓put_some, ↓reduceIte, Nat.reduceEqDiff, ↓argEnv_zero, ↓argEnv_succ, *]; done)), (by first | rfl | (simp only [↓upd_apply, ↓put_some, ↓reduceIte, Nat.reduceEqDiff, ↓argEnv_zero, ↓argEnv_succ, *]; done)), 0, acc, (by first | rfl | (simp only [↓upd_apply, ↓put_some, ↓reduceIte, Nat.reduceEqDiff, ↓argEnv_zero, ↓argEnv_succ, *]; done)), rfl, by simp, by omega, rfl⟩ ?_
  rintro m e S ⟨s0, s6, s7, k, cur, s8, rfl, hcur, hk, rfl⟩
  have hb := flat_bound numI l 9 k (fun x hx => numI_le x (by have := h x hx; omega))
  have hk100 : k * 9 ≤ 100 * 9 := Nat.mul_le_mul_right _ (by omega)
  have hcl : cur.length ≤ 1000000000 + 100 * 9 := by rw [hcur]; rw [List.length_append]; omega
  by_cases hlt : k < l.length
  rotate_left
  · obtain rfl : k = l.length := by omega
    rw [List.take_length] at hcur
    rw [← hcur]
    refine runf (And.intro @s0 (And.intro @s6 (And.intro @s7 @s8))) ?_
    exact en2 rfl
  have hg : l[k]? = some l[k] := List.getElem?_eq_getElem hlt
  have hx := h l[k] (List.getElem_mem hlt)
  have hst := flat_step numI hlt
  have hbx := ((fun x hx => numI_le x (by have := h x hx; omega))) l[k] (List.getElem_mem hlt)
  generalize l[k] = x at *
  have hsz : allSz 1 (l.map (AV.it .i64)) = true := allSz_map 1 _ (fun _ => rfl) _
  refine runf (And.intro @s0 (And.intro @s6 (And.intro @s7 (And.intro @s8 (And.intro @hg @hsz))))) ?_
  refine cp (num_c x (by omega) (by omega)) ?_
  refine runf (And.intro @s0 (And.intro @s6 (And.intro @s7 @s8))) ?_
  exact round_mk (l.length - (k + 1)) (by omega) ⟨(by first | rfl | (simp only [↓upd_apply, ↓put_some, ↓reduceIte, Nat.reduceEqDiff, ↓argEnv_zero, ↓argEnv_succ, *]; done)), (by first | rfl | (simp only [↓upd_apply, ↓put_some, ↓reduceIte, Nat.reduceEqDiff, ↓argEnv_zero, ↓argEnv_succ, *]; done)), (by first | rfl | (simp only [↓upd_apply, ↓put_some, ↓reduceIte, Nat.reduceEqDiff, ↓argEnv_zero, ↓argEnv_succ, *]; done)), k + 1, cur ++ numI x, (by first | rfl | (simp only [↓upd_apply, ↓put_some, ↓reduceIte, Nat.reduceEqDiff, ↓argEnv_zero, ↓argEnv_succ, *]; done)), bv_app _ _ _, by rw [hst, hcur]; rw [List.append_assoc], by omega, rfl⟩
theorem nums0_c (l : List Int) (hl : l.length ≤ 100) (h : ∀ x ∈ l, -9223372036854775808 ≤ x ∧ x ≤ 9223372036854775807) : AC Tryz.prog 49 [.ptr 0 0, .sl .ro (l.map (AV.it .i64))] [.cells [.sl .full []]] (.tup []) (BV 5 ((l.map numI).flatten)) := by
  refine AC.enter [23] [] Tryz.func49 rfl (by decide) (by decide) (Nat.le_of_ble_eq_true rfl) (by kernel_rfl) ?_; simp only [eraseC, eraseO, List.map_cons, List.map_nil, List.map_toArray, List.getElem?_toArray, List.getElem?_cons_zero, List.getElem?_cons_succ, Option.bind_some, Option.bind_none, List.append_eq, List.cons_append, List.nil_append]
  refine run ?_
  refine loop_mk' (fun m e S => e 0 = .ptr 0 0 ∧ e 6 = .sl .ro (l.map (AV.it .i64)) ∧ e 7 = .it .i64 (l.length : Int) ∧ ∃ (k : Nat) (cur : By), e 8 = .it .i64 (k : Int) ∧ S = BV 5 cur ∧ cur = ((l.take k).map numI).flatten ∧ k ≤ l.length ∧ m = l.length - k) l.length _ _ (Weak.reserveC 1 0 (es := []) (by rfl) 5 1)
    ⟨(by first | rfl | (simp only [↓upd_apply, ↓put_some, ↓reduceIte, Nat.reduceEqDiff, ↓argEnv_zero, ↓argEnv_succ, *]; done)), (by first | rfl | (simp only [↓upd_apply, ↓put_some, ↓reduceIte, Nat.reduceEqDiff, ↓argEnv_zero, ↓argEnv_succ, *]; done)), (by first | rfl | (simp only [↓upd_apply, ↓put_some, ↓reduceIte, Nat.reduceEqDiff, ↓argEnv_zero, ↓argEnv_succ, *]; done)), 0, [], (by first | rfl | (simp only [↓upd_apply, ↓put_some, ↓reduceIte, Nat.reduceEqDiff, ↓argEnv_zero, ↓argEnv_succ, *]; done)), rfl, by simp, by omega, rfl⟩ ?_
  rintro m e S ⟨s0, s6, s7, k, cur, s8, rfl, hcur, hk, rfl⟩
  have hb := flat_bound numI l 9 k (fun x hx => numI_le x (by have := h x hx; omega))
  have hk100 : k * 9 ≤ 100 * 9 := Nat.mul_le_mul_right _ (by omega)
  have hcl : cur.length ≤ 100 * 9 := by rw [hcur]; exact Nat.le_trans hb hk100
  by_cases hlt : k < l.length
  rotate_left
  · obtain rfl : k = l.length := by omega
    rw [List.take_length] at hcur
    rw [← hcur]
    refine runf (And.intro @s0 (And.intro @s6 (And.intro @s7 @s8))) ?_
    exact en2 rfl
  have hg : l[k]? = some l[k] := List.getElem?_eq_getElem hlt
  have hx := h l[k] (List.getElem_mem hlt)
  have hst := flat_step numI hlt
  have hbx := ((fun x hx => numI_le x (by have := h x hx; omega))) l[k] (List.getElem_mem hlt)
  generalize l[k] = x at *
  have hsz : allSz 1 (l.map (AV.it .i64)) = true := allSz_map 1 _ (fun _ => rfl) _
  refine runf (And.intro @s0 (And.intro @s6 (And.intro @s7 (And.intro @s8 (And.intro @hg @hsz))))) ?_
  refine cp (num_c x (by omega) (by omega)) ?_
  refine runf (And.intro @s0 (And.intro @s6 (And.intro @s7 @s8))) ?_
  exact round_mk (l.length - (k + 1)) (by omega) ⟨(by first | rfl | (simp only [↓upd_apply, ↓put_some, ↓reduceIte, Nat.reduceEqDiff, ↓argEnv_zero, ↓argEnv_succ, *]; done)), (by first | rfl | (simp only [↓upd_apply, ↓put_some, ↓reduceIte, Nat.reduceEqDiff, ↓argEnv_zero, ↓argEnv_succ, *]; done)), (by first | rfl | (simp only [↓upd_apply, ↓put_some, ↓reduceIte, Nat.reduceEqDiff, ↓argEnv_zero, ↓argEnv_succ, *]; done)), k + 1, cur ++ numI x, (by first | rfl | (simp only [↓upd_apply, ↓put_some, ↓reduceIte, Nat.reduceEqDiff, ↓argEnv_zero, ↓argEnv_succ, *]; done)), bv_app _ _ _, by rw [hst, hcur], by omega, rfl⟩
theorem texts_c (l : List By) (acc : By) (hl : l.length ≤ 100) (h : ∀ x ∈ l, x.length ≤ 1000000) (hac : acc.length ≤ 1000000000) : AC Tryz.prog 168 [.ptr 0 0, sls l] (BV 5 acc) (.tup []) (BV 5 (acc ++ (l.map text).flatten)) := by
  refine AC.enter [163] [] Tryz.func168 rfl (by decide) (by decide) (Nat.le_of_ble_eq_true rfl) (by kernel_rfl) ?_; simp only [eraseC, eraseO, List.map_cons, List.map_nil, List.map_toArray, List.getElem?_toArray, List.getElem?_cons_zero, List.getElem?_cons_succ, Option.bind_some, Option.bind_none, List.append_eq, List.cons_append, List.nil_append]
  refine run ?_
  refine loop_mk' (fun m e S => e 0 = .ptr 0 0 ∧ e 6 = sls l ∧ e 7 = .it .i64 (l.length : Int) ∧ ∃ (k : Nat) (cur : By), e 8 = .it .i64 (k : Int) ∧ S = BV 5 cur ∧ cur = acc ++ ((l.take k).map text).flatten ∧ k ≤ l.length ∧ m = l.length - k) l.length _ _ (Weak.refl 2 _ _)
    ⟨(by first | rfl | (simp only [↓upd_apply, ↓put_some, ↓reduceIte, Nat.reduceEqDiff, ↓argEnv_zero, ↓argEnv_succ, *]; done)), (by first | rfl | (simp only [↓upd_apply, ↓put_some, ↓reduceIte, Nat.reduceEqDiff, ↓argEnv_zero, ↓argEnv_succ, *]; done)), (by first | rfl | (simp only [↓upd_apply, ↓put_some, ↓reduceIte, Nat.reduceEqDiff, ↓argEnv_zero, ↓argEnv_succ, *]; done)), 0, acc, (by first | rfl | (simp only [↓upd_apply, ↓put_some, ↓reduceIte, Nat.reduceEqDiff, ↓argEnv_zero, ↓argEnv_succ, *]; done)), rfl, by simp, by omega, rfl⟩ ?_
  rintro m e S ⟨s0, s6, s7, k, cur, s8, rfl, hcur, hk, rfl⟩
  have hb := flat_bound text l 1000009 k (fun x hx => text_len (h x hx))
  have hk100 : k * 1000009 ≤ 100 * 1000009 := Nat.mul_le_mul_right _ (by omega)
  have hcl : cur.length ≤ 1000000000 + 100 * 1000009 := by rw [hcur]; rw [List.length_append]; omega
  by_cases hlt : k < l.length
  rotate_left
  · obtain rfl : k = l.length := by omega
    rw [List.take_length] at hcur
    rw [← hcur]
    refine runf (And.intro @s0 (And.intro @s6 (And.intro @s7 @s8))) ?_
    exact en2 rfl
  have hg : l[k]? = some l[k] := List.getElem?_eq_getElem hlt
  have hx := h l[k] (List.getElem_mem hlt)
  have hst := flat_step text hlt
  have hbx := ((fun x hx => text_len (h x hx))) l[k] (List.getElem_mem hlt)
  generalize l[k] = x at *
  have hsz : allSz 1 (l.map AV.st) = true := allSz_map 1 _ (fun _ => rfl) _
  refine runf (And.intro @s0 (And.intro @s6 (And.intro @s7 (And.intro @s8 (And.intro @hg @hsz))))) ?_
  refine cp (text_c x (by omega)) ?_
  refine runf (And.intro @s0 (And.intro @s6 (And.intro @s7 @s8))) ?_
  exact round_mk (l.length - (k + 1)) (by omega) ⟨(by first | rfl | (simp only [↓upd_apply, ↓put_some, ↓reduceIte, Nat.reduceEqDiff, ↓argEnv_zero, ↓argEnv_succ, *]; done)), (by first | rfl | (simp only [↓upd_apply, ↓put_some, ↓reduceIte, Nat.reduceEqDiff, ↓argEnv_zero, ↓argEnv_succ, *]; done)), (by first | rfl | (simp only [↓upd_apply, ↓put_some, ↓reduceIte, Nat.reduceEqDiff, ↓argEnv_zero, ↓argEnv_succ, *]; done)), k + 1, cur ++ text x, (by first | rfl | (simp only [↓upd_apply, ↓put_some, ↓reduceIte, Nat.reduceEqDiff, ↓argEnv_zero, ↓argEnv_succ, *]; done)), bv_app _ _ _, by rw [hst, hcur]; rw [List.append_assoc], by omega, rfl⟩
theorem texts0_c (l : List By) (hl : l.length ≤ 100) (h : ∀ x ∈ l, x.length ≤ 1000000) : AC Tryz.prog 168 [.ptr 0 0, sls l] [.cells [.sl .full []]] (.tup []) (BV 5 ((l.map text).flatten)) := by
  refine AC.enter [163] [] Tryz.func168 rfl (by decide) (by decide) (Nat.le_of_ble_eq_true rfl) (by kernel_rfl) ?_; simp only [eraseC, eraseO, List.map_cons, List.map_nil, List.map_toArray, List.getElem?_toArray, List.getElem?_cons_zero, List.getElem?_cons_succ, Option.bind_some, Option.bind_none, List.append_eq, List.cons_append, List.nil_append]
  refine run ?_
  refine loop_mk' (fun m e S => e 0 = .ptr 0 0 ∧ e 6 = sls l ∧ e 7 = .it .i64 (l.length : Int) ∧ ∃ (k : Nat) (cur : By), e 8 = .it .i64 (k : Int) ∧ S = BV 5 cur ∧ cur = ((l.take k).map text).flatten ∧ k ≤ l.length ∧ m = l.length - k) l.length _ _ (Weak.reserveC 1 0 (es := []) (by rfl) 5 1)
    ⟨(by first | rfl | (simp only [↓upd_apply, ↓put_some, ↓reduceIte, Nat.reduceEqDiff, ↓argEnv_zero, ↓argEnv_succ, *]; done)), (by first | rfl | (simp only [↓upd_apply, ↓put_some, ↓reduceIte, Nat.reduceEqDiff, ↓argEnv_zero, ↓argEnv_succ, *]; done)), (by first | rfl | (simp only [↓upd_apply, ↓put_some, ↓reduceIte, Nat.reduceEqDiff, ↓argEnv_zero, ↓argEnv_succ, *]; done)), 0, [], (by first | rfl | (simp only [↓upd_apply, ↓put_some, ↓reduceIte, Nat.reduceEqDiff, ↓argEnv_zero, ↓argEnv_succ, *]; done)), rfl, by simp, by omega, rfl⟩ ?_
  rintro m e S ⟨s0, s6, s7, k, cur, s8, rfl, hcur, hk, rfl⟩
  have hb := flat_bound text l 1000009 k (fun x hx => text_len (h x hx))
  have hk100 : k * 1000009 ≤ 100 * 1000009 := Nat.mul_le_mul_right _ (by omega)
  have hcl : cur.length ≤ 100 * 1000009 := by rw [hcur]; exact Nat.le_trans hb hk100
  by_cases hlt : k < l.length
  rotate_left
  · obtain rfl : k = l.length := by omega
    rw [List.take_length] at hcur
    rw [← hcur]
    refine runf (And.intro @s0 (And.intro @s6 (And.intro @s7 @s8))) ?_
    exact en2 rfl
  have hg : l[k]? = some l[k] := List.getElem?_eq_getElem hlt
  have hx := h l[k] (List.getElem_mem hlt)
  have hst := flat_step text hlt
  have hbx := ((fun x hx => text_len (h x hx))) l[k] (List.getElem_mem hlt)
  generalize l[k] = x at *
  have hsz : allSz 1 (l.map AV.st) = true := allSz_map 1 _ (fun _ => rfl) _
  refine runf (And.intro @s0 (And.intro @s6 (And.intro @s7 (And.intro @s8 (And.intro @hg @hsz))))) ?_
  refine cp (text_c x (by omega)) ?_
  refine runf (And.intro @s0 (And.intro @s6 (And.intro @s7 @s8))) ?_
  exact round_mk (l.length - (k + 1)) (by omega) ⟨(by first | rfl | (simp only [↓upd_apply, ↓put_some, ↓reduceIte, Nat.reduceEqDiff, ↓argEnv_zero, ↓argEnv_succ, *]; done)), (by first | rfl | (simp only [↓upd_apply, ↓put_some, ↓reduceIte, Nat.reduceEqDiff, ↓argEnv_zero, ↓argEnv_succ, *]; done)), (by first | rfl | (simp only [↓upd_apply, ↓put_some, ↓reduceIte, Nat.reduceEqDiff, ↓argEnv_zero, ↓argEnv_succ, *]; done)), k + 1, cur ++ text x, (by first | rfl | (simp only [↓upd_apply, ↓put_some, ↓reduceIte, Nat.reduceEqDiff, ↓argEnv_zero, ↓argEnv_succ, *]; done)), bv_app _ _ _, by rw [hst, hcur], by omega, rfl⟩
/-- sizes of what is encoded -/
structure Ez (i : It.Item) : Prop where
  c : i.claim.actor.length ≤ 1000000 ∧ i.claim.prev.length ≤ 1000000
  ci : ∀ x ∈ [i.claim.base, i.claim.gen, i.claim.home, i.claim.pub, i.claim.time], -9223372036854775808 ≤ x ∧ x ≤ 9223372036854775807
  b : i.ballot.actor.length ≤ 1000000 ∧ i.ballot.claim.length ≤ 1000000
  bi : ∀ x ∈ [i.ballot.server, i.ballot.gen, i.ballot.time], -9223372036854775808 ≤ x ∧ x ≤ 9223372036854775807
  d : i.decision.actor.length ≤ 1000000 ∧ i.decision.object.length ≤ 1000000 ∧ i.decision.text.length ≤ 1000000
  dt : i.decision.to.length ≤ 1000000 ∧ ∀ s ∈ i.decision.to, s.length ≤ 1000000
  di : ∀ x ∈ [i.decision.server, i.decision.number, i.decision.kind, i.decision.n, i.decision.frm, i.decision.til], -9223372036854775808 ≤ x ∧ x ≤ 9223372036854775807
theorem flat1 (g : Int → By) (a : Int) : ([a].map g).flatten = g a := by simp
theorem flat1t (a : By) : ([a].map text).flatten = text a := by simp
theorem bclaim_c (i : It.Item) (acc : By) (h : Ez i) (hac : acc.length ≤ 100000000) : AC Tryz.prog 104 [.ptr 0 0, itemV i] (BV 5 acc) (.tup []) (BV 5 (acc ++ claimB i.claim)) := by
  refine AC.enter [] [] Tryz.func104 rfl (by decide) (by decide) (Nat.le_of_ble_eq_true rfl) (by kernel_rfl) ?_; simp only [eraseC, eraseO, List.map_cons, List.map_nil, List.map_toArray, List.getElem?_toArray, List.getElem?_cons_zero, List.getElem?_cons_succ, Option.bind_some, Option.bind_none, List.append_eq, List.cons_append, List.nil_append]
  have h1 := h.c
  have h2 := h.ci
  simp only [List.forall_mem_cons] at h2
  have l1 := text_len h1.1
  have l2 := numI_le i.claim.base (by omega)
  have l3 := text_len h1.2
  have k1 := texts_c [i.claim.actor] acc (by simp) (by simpa using h1.1) (by omega)
  have k2 := nums_c [i.claim.base] (acc ++ text i.claim.actor) (by simp) (by simp; omega) (by simp only [List.length_append]; omega)
  have k3 := texts_c [i.claim.prev] (acc ++ text i.claim.actor ++ numI i.claim.base) (by simp) (by simpa using h1.2) (by simp only [List.length_append]; omega)
  have k4 := nums_c [i.claim.gen, i.claim.home, i.claim.pub, i.claim.time] (acc ++ text i.claim.actor ++ numI i.claim.base ++ text i.claim.prev) (by simp) (by simp; omega) (by simp only [List.length_append]; omega)
  rw [flat1t] at k1 k3
  rw [flat1] at k2
  have he : acc ++ claimB i.claim = acc ++ text i.claim.actor ++ numI i.claim.base ++ text i.claim.prev ++ ([i.claim.gen, i.claim.home, i.claim.pub, i.claim.time].map numI).flatten := by
    unfold claimB
    simp
  rw [he]
  clear he l1 l2 l3 h1 h2
  generalize ([i.claim.gen, i.claim.home, i.claim.pub, i.claim.time].map numI).flatten = tl at *
  generalize acc ++ text i.claim.actor ++ numI i.claim.base ++ text i.claim.prev ++ tl = a4 at *
  generalize acc ++ text i.claim.actor ++ numI i.claim.base ++ text i.claim.prev = a3 at *
  generalize acc ++ text i.claim.actor ++ numI i.claim.base = a2 at *
  generalize acc ++ text i.claim.actor = a1 at *
  refine run ?_
  refine cb 0 1 k1 ?_
  refine run ?_
  refine cb 0 1 k2 ?_
  refine run ?_
  refine cb 0 1 k3 ?_
  refine run ?_
  refine cb 0 1 k4 ?_
  refine run ?_
  exact en2 rfl
theorem bballot_c (i : It.Item) (acc : By) (h : Ez i) (hac : acc.length ≤ 100000000) : AC Tryz.prog 105 [.ptr 0 0, itemV i] (BV 5 acc) (.tup []) (BV 5 (acc ++ ballotB i.ballot)) := by
  refine AC.enter [] [] Tryz.func105 rfl (by decide) (by decide) (Nat.le_of_ble_eq_true rfl) (by kernel_rfl) ?_; simp only [eraseC, eraseO, List.map_cons, List.map_nil, List.map_toArray, List.getElem?_toArray, List.getElem?_cons_zero, List.getElem?_cons_succ, Option.bind_some, Option.bind_none, List.append_eq, List.cons_append, List.nil_append]
  have h1 := h.b
  have h2 := h.bi
  simp only [List.forall_mem_cons] at h2
  have l1 := numI_le i.ballot.server (by omega)
  have l2 := text_len h1.1
  have l3 := numI_le i.ballot.gen (by omega)
  have l4 := text_len h1.2
  have k1 := nums_c [i.ballot.server] acc (by simp) (by simp; omega) (by omega)
  have k2 := texts_c [i.ballot.actor] (acc ++ numI i.ballot.server) (by simp) (by simpa using h1.1) (by simp only [List.length_append]; omega)
  have k3 := nums_c [i.ballot.gen] (acc ++ numI i.ballot.server ++ text i.ballot.actor) (by simp) (by simp; omega) (by simp only [List.length_append]; omega)
  have k4 := texts_c [i.ballot.claim] (acc ++ numI i.ballot.server ++ text i.ballot.actor ++ numI i.ballot.gen) (by simp) (by simpa using h1.2) (by simp only [List.length_append]; omega)
  have k5 := nums_c [i.ballot.time] (acc ++ numI i.ballot.server ++ text i.ballot.actor ++ numI i.ballot.gen ++ text i.ballot.claim) (by simp) (by simp; omega) (by simp only [List.length_append]; omega)
  rw [flat1t] at k2 k4
  rw [flat1] at k1 k3 k5
  have he : acc ++ ballotB i.ballot = acc ++ numI i.ballot.server ++ text i.ballot.actor ++ numI i.ballot.gen ++ text i.ballot.claim ++ numI i.ballot.time := by
    unfold ballotB
    simp only [List.append_assoc]
  rw [he]
  clear he l1 l2 l3 l4 h1 h2
  generalize acc ++ numI i.ballot.server ++ text i.ballot.actor ++ numI i.ballot.gen ++ text i.ballot.claim ++ numI i.ballot.time = a5 at *
  generalize acc ++ numI i.ballot.server ++ text i.ballot.actor ++ numI i.ballot.gen ++ text i.ballot.claim = a4 at *
  generalize acc ++ numI i.ballot.server ++ text i.ballot.actor ++ numI i.ballot.gen = a3 at *
  generalize acc ++ numI i.ballot.server ++ text i.ballot.actor = a2 at *
  generalize acc ++ numI i.ballot.server = a1 at *
  refine run ?_
  refine cb 0 1 k1 ?_
  refine run ?_
  refine cb 0 1 k2 ?_
  refine run ?_
  refine cb 0 1 k3 ?_
  refine run ?_
  refine cb 0 1 k4 ?_
  refine run ?_
  refine cb 0 1 k5 ?_
  refine run ?_
  exact en2 rfl
theorem bdecision_c (i : It.Item) (acc : By) (h : Ez i) (hac : acc.length ≤ 100000000) (hlist : (list i.decision.to).length ≤ 100000000) : AC Tryz.prog 106 [.ptr 0 0, itemV i] (BV 5 acc) (.tup []) (BV 5 (acc ++ decisionB i.decision)) := by
  refine AC.enter2 [173] [] Tryz.func106 rfl (by decide) (by decide) (Nat.le_of_ble_eq_true rfl) (by kernel_rfl) ?_; simp only [eraseC, eraseO, List.map_cons, List.map_nil, List.map_toArray, List.getElem?_toArray, List.getElem?_cons_zero, List.getElem?_cons_succ, Option.bind_some, Option.bind_none, List.append_eq, List.cons_append, List.nil_append]
  have h1 := h.d
  have h2 := h.di
  have h3 := h.dt
  simp only [List.forall_mem_cons] at h2
  have hx3 : ([i.decision.server, i.decision.number, i.decision.kind].map numI).flatten = numI i.decision.server ++ (numI i.decision.number ++ numI i.decision.kind) := by simp
  have hx4 : ([i.decision.actor, i.decision.object, i.decision.text].map text).flatten = text i.decision.actor ++ (text i.decision.object ++ text i.decision.text) := by simp
  have hx5 : ([i.decision.n, i.decision.frm, i.decision.til].map numI).flatten = numI i.decision.n ++ (numI i.decision.frm ++ numI i.decision.til) := by simp
  have n1 := numI_le i.decision.server (by omega)
  have n2 := numI_le i.decision.number (by omega)
  have n3 := numI_le i.decision.kind (by omega)
  have t1 := text_len h1.1
  have t2 := text_len h1.2.1
  have t3 := text_len h1.2.2
  have k1 := nums_c [i.decision.server, i.decision.number, i.decision.kind] acc (by simp) (by simp; omega) (by omega)
  rw [hx3] at k1
  have k2 := texts_c [i.decision.actor, i.decision.object, i.decision.text] (acc ++ (numI i.decision.server ++ (numI i.decision.number ++ numI i.decision.kind))) (by simp) (by simp; omega) (by simp only [List.length_append]; omega)
  rw [hx4] at k2
  have k3 := list_c i.decision.to h3.1 h3.2
  have he : acc ++ decisionB i.decision = acc ++ (numI i.decision.server ++ (numI i.decision.number ++ numI i.decision.kind)) ++ (text i.decision.actor ++ (text i.decision.object ++ text i.decision.text)) ++ list i.decision.to ++ (numI i.decision.n ++ (numI i.decision.frm ++ numI i.decision.til)) := by
    unfold decisionB
    simp only [List.append_assoc]
  rw [he]
  have hl1 : (acc ++ (numI i.decision.server ++ (numI i.decision.number ++ numI i.decision.kind)) ++ (text i.decision.actor ++ (text i.decision.object ++ text i.decision.text))).length ≤ 200000000 := by simp only [List.length_append]; omega
  have k4 := nums_c [i.decision.n, i.decision.frm, i.decision.til] (acc ++ (numI i.decision.server ++ (numI i.decision.number ++ numI i.decision.kind)) ++ (text i.decision.actor ++ (text i.decision.object ++ text i.decision.text)) ++ list i.decision.to) (by simp) (by simp; omega) (by rw [List.length_append]; omega)
  rw [hx5] at k4
  generalize acc ++ (numI i.decision.server ++ (numI i.decision.number ++ numI i.decision.kind)) ++ (text i.decision.actor ++ (text i.decision.object ++ text i.decision.text)) = a2 at *
  generalize acc ++ (numI i.decision.server ++ (numI i.decision.number ++ numI i.decision.kind)) = a1 at *
  generalize list i.decision.to = li at *
  generalize numI i.decision.n ++ (numI i.decision.frm ++ numI i.decision.til) = tl at *
  have hmap : a2.map u8 ++ li.map u8 = (a2 ++ li).map u8 := List.map_append.symm
  have hlen : a2.length + li.length = (a2 ++ li).length := List.length_append.symm
  clear n1 n2 n3 t1 t2 t3 he hx3 hx4 hx5
  generalize a2 ++ li = a3 at *
  generalize a3 ++ tl = a4 at *
  refine run ?_
  refine cb 0 1 k1 ?_
  refine run ?_
  refine cb 0 1 k2 ?_
  refine run ?_
  refine cp k3 ?_
  refine runf (And.intro @hmap @hlen) ?_
  refine cb 0 1 k4 ?_
  refine run ?_
  exact en2 rfl
end Go.Proofs.YtnjjldhcpiehkaaGreatDoor.Pe
