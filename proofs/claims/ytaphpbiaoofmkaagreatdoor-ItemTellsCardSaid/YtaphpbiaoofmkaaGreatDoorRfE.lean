/- The reference of layer 2 on plain values: readers. -/
import Derived.Test.YtaphpbiaoofmkaaGreatDoorRfW
set_option linter.unusedSectionVars false
set_option linter.unusedVariables false
set_option linter.unusedSimpArgs false
namespace Go.Proofs.YtaphpbiaoofmkaaGreatDoor.Pe
open Go Go.RowKit Co
set_option maxRecDepth 100000
set_option maxHeartbeats 4000000
def vlen : By → Nat → Nat
 | [], _ => 0
 | d :: r, i => if 9 ≤ i then 0 else if 128 ≤ d.toNat then vlen r (i + 1) else if d.toNat = 0 ∧ 0 < i then 0 else i + 1
theorem vlen_cons (d : UInt8) (r : By) (i : Nat) : vlen (d :: r) i = if 9 ≤ i then 0 else if 128 ≤ d.toNat then vlen r (i + 1) else if d.toNat = 0 ∧ 0 < i then 0 else i + 1 := rfl
def val : By → Nat
 | [] => 0
 | d :: r => d.toNat % 128 + 128 * val r
theorem vlen_gt : ∀ (l : By) (i : Nat), vlen l i = 0 ∨ (i < vlen l i ∧ vlen l i ≤ i + l.length ∧ vlen l i ≤ 9)
 | [], i => .inl rfl
 | d :: r, i => by
  rw [vlen_cons]
  by_cases h9 : 9 ≤ i
  ·rw [if_pos h9]; exact .inl rfl
  rw [if_neg h9]
  by_cases h128 : 128 ≤ d.toNat
  ·rw [if_pos h128, List.length_cons]
   rcases vlen_gt r (i + 1) with h | h
   ·exact .inl h
   ·exact .inr (by omega)
  ·rw [if_neg h128]
   by_cases hz : d.toNat = 0 ∧ 0 < i
   ·rw [if_pos hz]; exact .inl rfl
   ·rw [if_neg hz, List.length_cons]; exact .inr (by omega)
theorem rdN_vlen : ∀ (l : By) (i n : Nat), rdN l i n = if vlen l i = 0 then none else some (n + val (l.take (vlen l i - i)) * 2 ^ (7 * i), l.drop (vlen l i - i))
 | [], i, n => by rw [show vlen [] i = 0 from rfl, if_pos rfl]; rfl
 | d :: r, i, n => by
  rw [rdN_cons, vlen_cons]
  have hd : d.toNat < 256 := d.toNat_lt
  by_cases h9 : 9 ≤ i
  ·rw [if_pos h9, if_pos h9, if_pos rfl]
  rw [if_neg h9, if_neg h9]
  by_cases h128 : 128 ≤ d.toNat
  ·rw [if_pos h128, if_pos h128, rdN_vlen r (i + 1) _]
   rcases vlen_gt r (i + 1) with h | h
   ·rw [if_pos h, if_pos h]
   ·have e : vlen r (i + 1) - i = (vlen r (i + 1) - (i + 1)) + 1 := by omega
    have hp : 2 ^ (7 * (i + 1)) = 128 * 2 ^ (7 * i) := by rw [show 7 * (i + 1) = 7 + 7 * i from by omega, Nat.pow_add]
    rw [if_neg (by omega), if_neg (by omega), e, List.take_succ_cons, List.drop_succ_cons, val, hp, show d.toNat % 128 = d.toNat - 128 from by omega, Nat.add_mul, Nat.add_assoc]
    congr 3
    rw [Nat.mul_comm 128 (val _), Nat.mul_assoc]
  ·rw [if_neg h128, if_neg h128]
   by_cases hz : d.toNat = 0 ∧ 0 < i
   ·rw [if_pos hz, if_pos hz, if_pos rfl]
   ·rw [if_neg hz, if_neg hz, if_neg (by omega), show i + 1 - i = 0 + 1 from by omega, List.take_succ_cons, List.drop_succ_cons, List.take_zero, List.drop_zero]
    rw [show val [d] = d.toNat from by simp only [val]; omega]
theorem val_lt : ∀ (l : By), val l < 128 ^ l.length
 | [] => by decide
 | d :: r => by
  have := val_lt r
  rw [val, List.length_cons, Nat.pow_succ]
  omega
theorem val_lt9 {l : By} (h : l.length ≤ 9) : val l < 9223372036854775808 := Nat.lt_of_lt_of_le (val_lt l) (Nat.pow_le_pow_right (by omega) h)
theorem val_lt8 {l : By} (h : l.length ≤ 8) : val l < 72057594037927936 := Nat.lt_of_lt_of_le (val_lt l) (Nat.pow_le_pow_right (by omega) h)
theorem flength_c (l : By) (hl : l.length < 9223372036854775808) : AC Tryz.prog 186 [.st l] [] (.it .i64 (vlen l 0 : Nat)) [] := by
 refine AC.enter [] [] Tryz.func186 rfl (by decide) (by decide) (Nat.le_of_ble_eq_true rfl) (by kernel_rfl) ?_; simp only [eraseC, eraseO, List.map_cons, List.map_nil, List.map_toArray, List.getElem?_toArray, List.getElem?_cons_zero, List.getElem?_cons_succ, Option.bind_some, Option.bind_none, List.append_eq, List.cons_append, List.nil_append]
 refine run ?_
 refine loop_mk (fun m e S => S = [] ∧ e 0 = .st l ∧ ∃ i : Nat, e 3 = .it .i64 (i : Int) ∧ i ≤ 9 ∧ i ≤ l.length ∧ vlen l 0 = vlen (l.drop i) i ∧ m = 9 - i) 9 ⟨rfl, (by first | rfl | (simp only [↓upd_apply, ↓put_some, ↓reduceIte, Nat.reduceEqDiff, ↓argEnv_zero, ↓argEnv_succ, *]; done)), 0, (by first | rfl | (simp only [↓upd_apply, ↓put_some, ↓reduceIte, Nat.reduceEqDiff, ↓argEnv_zero, ↓argEnv_succ, *]; done)), by omega, by omega, rfl, rfl⟩ ?_
 rintro m e S ⟨rfl, s0, i, s3, hi, hil, hv, rfl⟩
 by_cases hlt : i < l.length
 rotate_left
 ·rw [hv, List.drop_eq_nil_of_le (by omega)]
  refine runf (an @s0 @s3) ?_
  exact er0
 have hdr : l.drop i = l[i] :: l.drop (i + 1) := List.drop_eq_getElem_cons hlt
 have hg : l[i]? = some l[i] := List.getElem?_eq_getElem hlt
 generalize l[i] = d at *
 have hu : u8 d = .it .u8 (d.toNat : Int) := rfl
 have hd : d.toNat < 256 := d.toNat_lt
 rw [hdr, vlen_cons] at hv
 by_cases h9 : 9 ≤ i
 ·rw [if_pos h9] at hv
  rw [hv]
  refine runf (an @s0 @s3) ?_
  exact er0
 rw [if_neg h9] at hv
 by_cases h128 : 128 ≤ d.toNat
 ·rw [if_pos h128] at hv
  refine runf (an @s0 (an @s3 (an @hg @hu))) ?_
  exact round_mk (9 - (i + 1)) (by omega) ⟨rfl, (by first | rfl | (simp only [↓upd_apply, ↓put_some, ↓reduceIte, Nat.reduceEqDiff, ↓argEnv_zero, ↓argEnv_succ, *]; done)), i + 1, (by first | rfl | (simp only [↓upd_apply, ↓put_some, ↓reduceIte, Nat.reduceEqDiff, ↓argEnv_zero, ↓argEnv_succ, *]; done)), by omega, by omega, hv, rfl⟩
 rw [if_neg h128] at hv
 by_cases hz : d.toNat = 0 ∧ 0 < i
 ·rw [if_pos hz] at hv
  rw [hv]
  have hz0 := hz.1
  have hz1 := hz.2
  refine runf (an @s0 (an @s3 (an @hg (an @hu @hz0)))) ?_
  exact er0
 ·rw [if_neg hz] at hv
  rw [hv]
  by_cases hz0 : d.toNat = 0
  ·obtain rfl : i = 0 := by omega
   refine runf (an @s0 (an @s3 (an @hg (an @hu @hz0)))) ?_
   exact er0
  ·refine runf (an @s0 (an @s3 (an @hg @hu))) ?_
   exact er0
theorem fvalue_c : ∀ (l : By), l ≠ [] → l.length ≤ 9 → AC Tryz.prog 188 [.st l] [] (.it .i64 (val l : Nat)) []
 | [], h, _ => absurd rfl h
 | d :: r, _, hl => by
  have hu : u8 d = .it .u8 (d.toNat : Int) := rfl
  have hd : d.toNat < 256 := d.toNat_lt
  have hw : IntKind.i64.wrap (d.toNat : Int) = (d.toNat : Int) := wrap64 (by omega) (by omega)
  have hm : (d.toNat : Int).tmod 128 = ((d.toNat % 128 : Nat) : Int) := by rw [Int.tmod_eq_emod_of_nonneg (by omega)]; omega
  by_cases hr : r = []
  ·subst hr
   rw [show val [d] = d.toNat % 128 from by simp only [val]; omega]
   refine AC.enter [188] [] Tryz.func188 rfl (by decide) (by decide) (Nat.le_of_ble_eq_true rfl) (by kernel_rfl) ?_; simp only [eraseC, eraseO, List.map_cons, List.map_nil, List.map_toArray, List.getElem?_toArray, List.getElem?_cons_zero, List.getElem?_cons_succ, Option.bind_some, Option.bind_none, List.append_eq, List.cons_append, List.nil_append]
   refine runf (an @hu (an @hw @hm)) ?_
   exact er0
  ·have ih := fvalue_c r hr (by rw [List.length_cons] at hl; omega)
   have hrl : 0 < r.length := List.length_pos_iff.2 hr
   have hv := val_lt8 (l := r) (by rw [List.length_cons] at hl; omega)
   have hl9 : r.length ≤ 8 := by rw [List.length_cons] at hl; omega
   rw [show val (d :: r) = d.toNat % 128 + 128 * val r from rfl]
   have e : ((d.toNat % 128 : Nat) : Int) + 128 * (val r : Int) = ((d.toNat % 128 + 128 * val r : Nat) : Int) := by push_cast; rfl
   have hdd : r.take r.length = r := List.take_length
   refine AC.enter [188] [] Tryz.func188 rfl (by decide) (by decide) (Nat.le_of_ble_eq_true rfl) (by kernel_rfl) ?_; simp only [eraseC, eraseO, List.map_cons, List.map_nil, List.map_toArray, List.getElem?_toArray, List.getElem?_cons_zero, List.getElem?_cons_succ, Option.bind_some, Option.bind_none, List.append_eq, List.cons_append, List.nil_append]
   refine runf (an @hu (an @hw (an @hm @hdd))) ?_
   refine cp ih ?_
   refine runf @e ?_
   exact er0
theorem fopen_c (s : By) : AC Tryz.prog 93 [.st s] [] (.ptr 0 0) [rd ⟨s, false⟩] := by
 refine AC.enter [] [] Tryz.func93 rfl (by decide) (by decide) (Nat.le_of_ble_eq_true rfl) (by kernel_rfl) ?_; simp only [eraseC, eraseO, List.map_cons, List.map_nil, List.map_toArray, List.getElem?_toArray, List.getElem?_cons_zero, List.getElem?_cons_succ, Option.bind_some, Option.bind_none, List.append_eq, List.cons_append, List.nil_append]
 refine run ?_
 exact ends_ret [0] (by rfl) (subOk_one 0 (by rfl) (by rfl)) (by rfl) (by rfl) (by rfl)
theorem ffail_c (x : R) : AC Tryz.prog 187 [.ptr 0 0] [rd x] (.tup []) [rd Co.fail] := by
 refine AC.enter [] [] Tryz.func187 rfl (by decide) (by decide) (Nat.le_of_ble_eq_true rfl) (by kernel_rfl) ?_; simp only [eraseC, eraseO, List.map_cons, List.map_nil, List.map_toArray, List.getElem?_toArray, List.getElem?_cons_zero, List.getElem?_cons_succ, Option.bind_some, Option.bind_none, List.append_eq, List.cons_append, List.nil_append]
 refine run ?_
 exact en1
theorem fleft_c (x : R) : AC Tryz.prog 98 [.ptr 0 0] [rd x] (.it .i64 x.rest.length) [rd x] := by
 refine AC.enter [] [] Tryz.func98 rfl (by decide) (by decide) (Nat.le_of_ble_eq_true rfl) (by kernel_rfl) ?_; simp only [eraseC, eraseO, List.map_cons, List.map_nil, List.map_toArray, List.getElem?_toArray, List.getElem?_cons_zero, List.getElem?_cons_succ, Option.bind_some, Option.bind_none, List.append_eq, List.cons_append, List.nil_append]
 refine run ?_
 exact er1
theorem fdone_c (x : R) : AC Tryz.prog 99 [.ptr 0 0] [rd x] (.bo (!x.bad && x.rest == [])) [rd x] := by
 refine AC.enter [] [] Tryz.func99 rfl (by decide) (by decide) (Nat.le_of_ble_eq_true rfl) (by kernel_rfl) ?_; simp only [eraseC, eraseO, List.map_cons, List.map_nil, List.map_toArray, List.getElem?_toArray, List.getElem?_cons_zero, List.getElem?_cons_succ, Option.bind_some, Option.bind_none, List.append_eq, List.cons_append, List.nil_append]
 obtain ⟨r, b⟩ := x
 cases r with
 | nil =>
  cases b
  ·refine run ?_
   exact er1
  ·refine run ?_
   exact er1
 | cons d r =>
  have e : ((d :: r : By) == []) = false := rfl
  cases b
  ·refine runf @e ?_
   exact er1
  ·refine runf @e ?_
   exact er1
theorem frnum_c (x : R) (hx : x.rest.length < 9223372036854775808) : AC Tryz.prog 95 [.ptr 0 0] [rd x] (.it .i64 x.num.1) [rd x.num.2] := by
 refine AC.enter [186, 188] [] Tryz.func95 rfl (by decide) (by decide) (Nat.le_of_ble_eq_true rfl) (by kernel_rfl) ?_; simp only [eraseC, eraseO, List.map_cons, List.map_nil, List.map_toArray, List.getElem?_toArray, List.getElem?_cons_zero, List.getElem?_cons_succ, Option.bind_some, Option.bind_none, List.append_eq, List.cons_append, List.nil_append]
 have hv := rdN_vlen x.rest 0 0
 have kl := flength_c x.rest hx
 unfold R.num
 rcases vlen_gt x.rest 0 with h | h
 ·rw [if_pos h] at hv
  rw [hv]
  rw [h] at kl
  refine run ?_
  refine cp kl ?_
  refine run ?_
  refine c1 0 (ffail_c x) ?_
  refine run ?_
  exact er1
 ·rw [if_neg (by omega)] at hv
  rw [hv]
  simp only [Nat.sub_zero, Nat.mul_zero, Nat.pow_zero, Nat.mul_one, Nat.zero_add] at h ⊢
  generalize vlen x.rest 0 = n at *
  have hlt : (x.rest.take n).length = n := by rw [List.length_take]; omega
  have kv := fvalue_c (x.rest.take n) (fun e => by rw [e] at hlt; simp at hlt; omega) (by omega)
  have hv9 := val_lt9 (l := x.rest.take n) (by omega)
  have hn0 : ¬ (n : Int) = 0 := by omega
  have hdd : x.rest.take x.rest.length = x.rest := List.take_length
  refine run ?_
  refine cp kl ?_
  refine runf @hn0 ?_
  refine cp kv ?_
  refine runf @hdd ?_
  exact er1
theorem ftake_c (x : R) (n : Nat) (hn : n < 9223372036854775808) (hx : x.rest.length < 9223372036854775808) : AC Tryz.prog 185 [.ptr 0 0, .it .i64 n] [rd x] (.st (x.take n).1) [rd (x.take n).2] := by
 refine AC.enter [] [] Tryz.func185 rfl (by decide) (by decide) (Nat.le_of_ble_eq_true rfl) (by kernel_rfl) ?_; simp only [eraseC, eraseO, List.map_cons, List.map_nil, List.map_toArray, List.getElem?_toArray, List.getElem?_cons_zero, List.getElem?_cons_succ, Option.bind_some, Option.bind_none, List.append_eq, List.cons_append, List.nil_append]
 obtain ⟨r, b⟩ := x
 unfold R.take
 by_cases h : r.length < n
 ·rw [if_pos (.inr h)]
  refine run ?_
  refine c1 0 (ffail_c ⟨r, b⟩) ?_
  refine run ?_
  exact er1
 cases b
 rotate_left
 ·rw [if_pos (.inl rfl)]
  refine run ?_
  refine c1 0 (ffail_c ⟨r, true⟩) ?_
  refine run ?_
  exact er1
 ·rw [if_neg (by simp; omega)]
  have hdd : r.take r.length = r := List.take_length
  refine runf @hdd ?_
  exact er1
theorem frtext_c (x : R) (hx : x.rest.length < 9223372036854775808) : AC Tryz.prog 94 [.ptr 0 0] [rd x] (.st x.text.1) [rd x.text.2] := by
 refine AC.enter [] [] Tryz.func94 rfl (by decide) (by decide) (Nat.le_of_ble_eq_true rfl) (by kernel_rfl) ?_; simp only [eraseC, eraseO, List.map_cons, List.map_nil, List.map_toArray, List.getElem?_toArray, List.getElem?_cons_zero, List.getElem?_cons_succ, Option.bind_some, Option.bind_none, List.append_eq, List.cons_append, List.nil_append]
 have h1 := num_lt x
 have h2 := num_rest x
 refine run ?_
 refine c1 0 (frnum_c x hx) ?_
 refine run ?_
 refine c1 0 (ftake_c x.num.2 x.num.1 (by omega) (by omega)) ?_
 refine run ?_
 exact er1
def Wf (x : R) : Prop := x.bad = true → x.rest = []
theorem wf_false (r : By) : Wf ⟨r, false⟩ := fun h => by cases h
theorem wf_fail : Wf Co.fail := fun _ => rfl
theorem wf_num {x : R} (h : Wf x) : Wf x.num.2 := by
 obtain ⟨r, b⟩ := x
 unfold R.num
 cases b
 ·cases hr : rdN r 0 0 with
  | none => simp only [hr]; exact wf_fail
  | some p => obtain ⟨m, q⟩ := p; simp only [hr]; exact wf_false q
 ·have : r = [] := h rfl
  subst this
  exact wf_fail
theorem wf_take (x : R) (n : Nat) : Wf (x.take n).2 := by
 obtain ⟨r, b⟩ := x
 unfold R.take
 split
 ·exact wf_fail
 ·rename_i hc
  cases b
  ·exact wf_false _
  ·exact absurd (.inl rfl) hc
theorem wf_text (x : R) : Wf x.text.2 := wf_take _ _
theorem wf_texts : ∀ (n : Nat) {x : R}, Wf x → Wf (x.texts n).2
 | 0, x, h => h
 | n + 1, x, h => by
  unfold R.texts
  split
  ·exact h
  ·exact wf_texts n (wf_text x)
theorem wf_list {x : R} (h : Wf x) : Wf x.list.2 := by
 have hy : Wf (if x.num.2.rest.length < x.num.1 then Co.fail else x.num.2) := by
  split
  ·exact wf_fail
  ·exact wf_num h
 unfold R.list
 simp only
 generalize (if x.num.2.rest.length < x.num.1 then Co.fail else x.num.2) = y at hy ⊢
 by_cases hb : (y.texts x.num.1).2.bad = true
 ·rw [if_pos hb]; exact wf_texts _ hy
 ·rw [if_neg hb]; exact wf_texts _ hy
def cnt (x : R) : Nat × R := if x.num.2.rest.length < x.num.1 then (0, Co.fail) else x.num
theorem ftexts_bad (n : Nat) (r : By) : R.texts n ⟨r, true⟩ = ([], ⟨r, true⟩) := by cases n <;> rfl
theorem ftexts_go (n : Nat) (r : By) : R.texts (n + 1) ⟨r, false⟩ = ((R.text ⟨r, false⟩).1 :: (R.texts n (R.text ⟨r, false⟩).2).1, (R.texts n (R.text ⟨r, false⟩).2).2) := rfl
theorem list_cnt (x : R) : x.list = if ((cnt x).2.texts (cnt x).1).2.bad then ([], ((cnt x).2.texts (cnt x).1).2) else (cnt x).2.texts (cnt x).1 := by
 unfold R.list cnt
 simp only
 by_cases h : x.num.2.rest.length < x.num.1
 ·rw [if_pos h, if_pos h]
  rw [show Co.fail = ⟨[], true⟩ from rfl, ftexts_bad, ftexts_bad]
 ·rw [if_neg h, if_neg h]
theorem cnt_bad {x : R} (h : Wf x) : (cnt x).2.bad = true → (cnt x).1 = 0 := by
 unfold cnt
 split
 ·intro _; rfl
 ·intro hb
  have hw := wf_num h hb
  rename_i hc
  rw [hw] at hc
  simp only [List.length_nil] at hc
  omega
theorem cnt_rest (x : R) : (cnt x).2.rest.length ≤ x.rest.length ∧ (cnt x).1 ≤ (cnt x).2.rest.length := by
 have := num_rest x
 unfold cnt
 split
 ·exact ⟨Nat.zero_le _, Nat.zero_le _⟩
 ·exact ⟨this, by omega⟩
theorem fcount_c (x : R) (hx : x.rest.length < 9223372036854775808) : AC Tryz.prog 189 [.ptr 0 0] [rd x] (.it .i64 (cnt x).1) [rd (cnt x).2] := by
 refine AC.enter [] [] Tryz.func189 rfl (by decide) (by decide) (Nat.le_of_ble_eq_true rfl) (by kernel_rfl) ?_; simp only [eraseC, eraseO, List.map_cons, List.map_nil, List.map_toArray, List.getElem?_toArray, List.getElem?_cons_zero, List.getElem?_cons_succ, Option.bind_some, Option.bind_none, List.append_eq, List.cons_append, List.nil_append]
 have h1 := num_lt x
 have h2 := num_rest x
 have k := frnum_c x hx
 unfold cnt
 generalize x.num = q at *
 obtain ⟨n, z⟩ := q
 simp only at h1 h2 k ⊢
 by_cases hlt : z.rest.length < n
 ·rw [if_pos hlt]
  refine run ?_
  refine c1 0 k ?_
  refine run ?_
  refine c1 0 (ffail_c z) ?_
  refine run ?_
  exact er1
 ·rw [if_neg hlt]
  refine run ?_
  refine c1 0 k ?_
  refine run ?_
  exact er1
theorem frlist_c (x : R) (hx : x.rest.length ≤ 1000000) (hw : Wf x) : AC Tryz.prog 96 [.ptr 0 0] [rd x] (sls x.list.1) [rd x.list.2] := by
 refine AC.enter [] [] Tryz.func96 rfl (by decide) (by decide) (Nat.le_of_ble_eq_true rfl) (by kernel_rfl) ?_; simp only [eraseC, eraseO, List.map_cons, List.map_nil, List.map_toArray, List.getElem?_toArray, List.getElem?_cons_zero, List.getElem?_cons_succ, Option.bind_some, Option.bind_none, List.append_eq, List.cons_append, List.nil_append]
 have h1 := cnt_rest x
 have h2 := cnt_bad hw
 have k := fcount_c x (by omega)
 rw [list_cnt]
 generalize cnt x = q at *
 obtain ⟨n, y⟩ := q
 simp only at h1 h2 k ⊢
 refine run ?_
 refine c1 0 k ?_
 refine run ?_
 refine loop_mk' (fun m e S => e 0 = .ptr 0 0 ∧ e 3 = .it .i64 (n : Int) ∧ ∃ (k : Nat) (acc : List By) (r : By) (b : Bool), e 4 = .sl (.own 1) (acc.map .st) ∧ e 5 = .it .i64 (k : Int) ∧ S = [rd ⟨r, b⟩, .buf acc.length 9 1] ∧
   acc.length = k ∧ k ≤ n ∧ r.length ≤ 1000000 ∧ (b = true → n = 0) ∧ R.texts n y = (acc ++ (R.texts (n - k) ⟨r, b⟩).1, (R.texts (n - k) ⟨r, b⟩).2) ∧ m = n - k) n _ _ (Weak.reserve 1 4 (es := []) (by rfl) 9 1)
   ⟨(by first | rfl | (simp only [↓upd_apply, ↓put_some, ↓reduceIte, Nat.reduceEqDiff, ↓argEnv_zero, ↓argEnv_succ, *]; done)), (by first | rfl | (simp only [↓upd_apply, ↓put_some, ↓reduceIte, Nat.reduceEqDiff, ↓argEnv_zero, ↓argEnv_succ, *]; done)), 0, [], y.rest, y.bad, (by first | rfl | (simp only [↓upd_apply, ↓put_some, ↓reduceIte, Nat.reduceEqDiff, ↓argEnv_zero, ↓argEnv_succ, *]; done)), (by first | rfl | (simp only [↓upd_apply, ↓put_some, ↓reduceIte, Nat.reduceEqDiff, ↓argEnv_zero, ↓argEnv_succ, *]; done)), rfl, rfl, by omega, by omega, h2, rfl, rfl⟩ ?_
 rintro m e S ⟨s0, s3, k, acc, r, b, s4, s5, rfl, hal, hk, hr, hnb, htx, rfl⟩
 by_cases hkn : k < n
 ·have hb : b = false := by
   cases b with
   | false => rfl
   | true => have := hnb rfl; omega
  subst hb
  obtain ⟨j, hj⟩ : ∃ j, n - k = j + 1 := ⟨n - k - 1, by omega⟩
  rw [hj, ftexts_go] at htx
  have htr := text_rest ⟨r, false⟩
  have hc := frtext_c ⟨r, false⟩ (by show r.length < _; omega)
  generalize R.text ⟨r, false⟩ = t at *
  obtain ⟨ts, tr, tb⟩ := t
  simp only at htr hc htx
  cases tb with
  | true =>
   rw [ftexts_bad] at htx
   rw [htx, if_pos rfl]
   refine runf (an @s0 (an @s3 (an @s4 @s5))) ?_
   refine c1 0 hc ?_
   refine runf (an @s0 (an @s3 (an @s4 @s5))) ?_
   exact er1w
  | false =>
   refine runf (an @s0 (an @s3 (an @s4 @s5))) ?_
   refine c1 0 hc ?_
   refine runf (an @s0 (an @s3 (an @s4 @s5))) ?_
   refine round_mk (n - (k + 1)) (by omega) ⟨(by first | rfl | (simp only [↓upd_apply, ↓put_some, ↓reduceIte, Nat.reduceEqDiff, ↓argEnv_zero, ↓argEnv_succ, *]; done)), (by first | rfl | (simp only [↓upd_apply, ↓put_some, ↓reduceIte, Nat.reduceEqDiff, ↓argEnv_zero, ↓argEnv_succ, *]; done)), k + 1, acc ++ [ts], tr, false, by rw [List.map_append]; exact (by first | rfl | (simp only [↓upd_apply, ↓put_some, ↓reduceIte, Nat.reduceEqDiff, ↓argEnv_zero, ↓argEnv_succ, *]; done)), (by first | rfl | (simp only [↓upd_apply, ↓put_some, ↓reduceIte, Nat.reduceEqDiff, ↓argEnv_zero, ↓argEnv_succ, *]; done)), by rw [List.length_append]; rfl, by rw [List.length_append, hal]; rfl, by omega, by omega, (fun h => by cases h), ?_, rfl⟩
   rw [htx, show n - (k + 1) = j from by omega, List.append_assoc]; rfl
 ·have hkn' : n - k = 0 := by omega
  rw [hkn'] at htx
  have htx : R.texts n y = (acc, ⟨r, b⟩) := by rw [htx]; simp [R.texts]
  rw [htx]
  cases b with
  | false =>
   rw [if_neg (by simp)]
   refine runf (an @s0 (an @s3 (an @s4 @s5))) ?_
   exact er1w
  | true =>
   have hn0 := hnb rfl
   obtain rfl : acc = [] := List.eq_nil_of_length_eq_zero (by omega)
   rw [if_pos rfl]
   refine runf (an @s0 (an @s3 (an @s4 @s5))) ?_
   exact er1w
end Go.Proofs.YtaphpbiaoofmkaaGreatDoor.Pe
