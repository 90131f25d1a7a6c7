/- Several texts in one. -/
import Derived.Test.YtjicccjpooahoaaPeR
import Derived.Test.YtjicccjpooahoaaCoV
set_option linter.unusedSectionVars false
set_option linter.unusedVariables false
set_option linter.unusedSimpArgs false
namespace Go.Proofs.Ytjicccjpooahoaa.Pe
open Go Co
variable [Tab]
set_option maxRecDepth 100000
abbrev sls (l : List By) : AV := .sl .ro (l.map .st)
abbrev rd (x : R) : SObj := .cells [.st x.rest, .bo x.bad]
theorem wrap8 {n : Int} (h : 0 ≤ n) (h' : n < 256) : IntKind.u8.wrap n = n := by
 show n % 2 ^ 8 = n
 omega
theorem ofNat8 {n : Nat} (h : n < 256) : (UInt8.ofNat n).toNat = n := by
 rw [UInt8.toNat_ofNat']; omega
theorem snoc8 (acc : By) (b : UInt8) : acc.map u8 ++ [AV.it .u8 (b.toNat : Int)] = (acc ++ [b]).map u8 := by simp [u8]
theorem num_c (n : Int) (h : n < 9223372036854775808) (h0 : -9223372036854775808 ≤ n) : AC Try.prog 51 [.it .i64 n] [] (.st (numI n)) [] := by
 refine AC.enter [] [] Try.func51 rfl (by decide) (by decide) (Nat.le_of_ble_eq_true rfl) (by kernel_rfl) ?_; simp only [eraseC, eraseG, eraseO, List.map_cons, List.map_nil, List.map_toArray, List.getElem?_toArray, List.getElem?_cons_zero, List.getElem?_cons_succ, Option.bind_some, Option.bind_none, List.append_eq, List.cons_append, List.nil_append]
 by_cases hn : n < 0
 ·rw [show numI n = [] from if_pos hn]
  refine run ?_
  exact er0
 obtain ⟨k, rfl⟩ := Int.eq_ofNat_of_zero_le (show 0 ≤ n by omega)
 rw [numI_nat]
 refine run ?_
 refine loop_mk' (fun m e S => ∃ (acc : By) (j : Nat), e 0 = .it .i64 (j : Int) ∧ e 3 = .sl (.own 0) (acc.map u8) ∧ S = [.buf acc.length 5 1] ∧ acc ++ num j = num k ∧ j ≤ k ∧ acc.length + j ≤ k ∧ m = j) k _ _ (Weak.reserve 0 3 (es := []) (by rfl) 5 1) ⟨[], k, (by first | rfl | (simp only [↓upd_apply, ↓put_some, ↓reduceIte, Nat.reduceEqDiff, ↓argEnv_zero, ↓argEnv_succ, *]; done)), (by first | rfl | (simp only [↓upd_apply, ↓put_some, ↓reduceIte, Nat.reduceEqDiff, ↓argEnv_zero, ↓argEnv_succ, *]; done)), rfl, rfl, Nat.le_refl _, by simp, rfl⟩ ?_
 rintro q e S ⟨acc, q, s0, s3, rfl, hnum, hj, hacc, rfl⟩
 have hal : acc.length ≤ 8 := by
  have e1 := congrArg List.length hnum
  have e2 := num_le 8 k (by omega)
  have e3 := num_len q
  rw [List.length_append] at e1
  omega
 by_cases hs : q < 128
 ·have hb : IntKind.u8.wrap (q : Int) = ((UInt8.ofNat q).toNat : Int) := by rw [wrap8 (by omega) (by omega), ofNat8 (by omega)]
  have hsn := snoc8 acc (UInt8.ofNat q)
  rw [num_small hs] at hnum
  refine runf (an @s0 (an @s3 (an @hb @hsn))) ?_
  rw [← hnum]
  exact er0
 ·have ht : (q : Int).tmod 128 = ((q % 128 : Nat) : Int) := by rw [Int.tmod_eq_emod_of_nonneg (by omega)]; omega
  have hd : (q : Int).tdiv 128 = ((q / 128 : Nat) : Int) := by rw [Int.tdiv_eq_ediv_of_nonneg (by omega)]; omega
  have hb : IntKind.u8.wrap (128 + ((q % 128 : Nat) : Int)) = ((UInt8.ofNat (128 + q % 128)).toNat : Int) := by rw [wrap8 (by omega) (by omega), ofNat8 (by omega)]; omega
  rw [num_big hs] at hnum
  refine runf (an @s0 (an @s3 (an @ht (an @hd @hb)))) ?_
  refine round_mk (q / 128) (by omega) ⟨acc ++ [UInt8.ofNat (128 + q % 128)], q / 128, (by first | rfl | (simp only [↓upd_apply, ↓put_some, ↓reduceIte, Nat.reduceEqDiff, ↓argEnv_zero, ↓argEnv_succ, *]; done)), by rw [← snoc8]; exact (by first | rfl | (simp only [↓upd_apply, ↓put_some, ↓reduceIte, Nat.reduceEqDiff, ↓argEnv_zero, ↓argEnv_succ, *]; done)), by rw [List.length_append]; rfl, by rw [List.append_assoc]; exact hnum, by omega, by rw [List.length_append, List.length_singleton]; omega, rfl⟩
theorem open_c (s : By) : AC Try.prog 44 [.st s] [] (.ptr 0 0) [rd ⟨s, false⟩] := by
 refine AC.enter [] [] Try.func44 rfl (by decide) (by decide) (Nat.le_of_ble_eq_true rfl) (by kernel_rfl) ?_; simp only [eraseC, eraseG, eraseO, List.map_cons, List.map_nil, List.map_toArray, List.getElem?_toArray, List.getElem?_cons_zero, List.getElem?_cons_succ, Option.bind_some, Option.bind_none, List.append_eq, List.cons_append, List.nil_append]
 refine run ?_
 exact ends_ret [0] (by rfl) (subOk_one 0 (by rfl) (by rfl)) (by rfl) (by rfl) (by rfl)
theorem fail_c (x : R) : AC Try.prog 53 [.ptr 0 0] [rd x] (.tup []) [rd Co.fail] := by
 refine AC.enter [] [] Try.func53 rfl (by decide) (by decide) (Nat.le_of_ble_eq_true rfl) (by kernel_rfl) ?_; simp only [eraseC, eraseG, eraseO, List.map_cons, List.map_nil, List.map_toArray, List.getElem?_toArray, List.getElem?_cons_zero, List.getElem?_cons_succ, Option.bind_some, Option.bind_none, List.append_eq, List.cons_append, List.nil_append]
 refine run ?_
 exact en1
theorem left_c (x : R) : AC Try.prog 45 [.ptr 0 0] [rd x] (.it .i64 x.rest.length) [rd x] := by
 refine AC.enter [] [] Try.func45 rfl (by decide) (by decide) (Nat.le_of_ble_eq_true rfl) (by kernel_rfl) ?_; simp only [eraseC, eraseG, eraseO, List.map_cons, List.map_nil, List.map_toArray, List.getElem?_toArray, List.getElem?_cons_zero, List.getElem?_cons_succ, Option.bind_some, Option.bind_none, List.append_eq, List.cons_append, List.nil_append]
 refine run ?_
 exact er1
theorem take_c (x : R) (n : Nat) (hn : n < 9223372036854775808) (hx : x.rest.length < 9223372036854775808) : AC Try.prog 47 [.ptr 0 0, .it .i64 n] [rd x] (.st (x.take n).1) [rd (x.take n).2] := by
 refine AC.enter [] [] Try.func47 rfl (by decide) (by decide) (Nat.le_of_ble_eq_true rfl) (by kernel_rfl) ?_; simp only [eraseC, eraseG, eraseO, List.map_cons, List.map_nil, List.map_toArray, List.getElem?_toArray, List.getElem?_cons_zero, List.getElem?_cons_succ, Option.bind_some, Option.bind_none, List.append_eq, List.cons_append, List.nil_append]
 obtain ⟨r, b⟩ := x
 unfold R.take
 cases b
 rotate_left
 ·rw [if_pos (.inl rfl)]
  refine run ?_
  refine c1 0 (fail_c ⟨r, true⟩) ?_
  refine run ?_
  exact er1
 by_cases h : r.length < n
 ·rw [if_pos (.inr h)]
  refine run ?_
  refine c1 0 (fail_c ⟨r, false⟩) ?_
  refine run ?_
  exact er1
 ·rw [if_neg (by simp; omega)]
  refine run ?_
  exact er1
set_option maxHeartbeats 3200000 in
theorem rnum_c (x : R) (hx : x.rest.length < 9223372036854775808) : AC Try.prog 46 [.ptr 0 0] [rd x] (.it .i64 x.num.1) [rd x.num.2] := by
 refine AC.enter [] [] Try.func46 rfl (by decide) (by decide) (Nat.le_of_ble_eq_true rfl) (by kernel_rfl) ?_; simp only [eraseC, eraseG, eraseO, List.map_cons, List.map_nil, List.map_toArray, List.getElem?_toArray, List.getElem?_cons_zero, List.getElem?_cons_succ, Option.bind_some, Option.bind_none, List.append_eq, List.cons_append, List.nil_append]
 refine run ?_
 refine loop_mk (fun m e S => ∃ (i acc : Nat), e 0 = .ptr 0 0 ∧ e 3 = .it .i64 (acc : Int) ∧ e 4 = .it .i64 (i : Int) ∧ S = [rd x] ∧ i ≤ 9 ∧ i ≤ x.rest.length ∧ acc < 2 ^ (7 * i) ∧ rdN x.rest 0 0 = rdN (x.rest.drop i) i acc ∧ m = 9 - i) 9 ⟨0, 0, (by first | rfl | (simp only [↓upd_apply, ↓put_some, ↓reduceIte, Nat.reduceEqDiff, ↓argEnv_zero, ↓argEnv_succ, *]; done)), (by first | rfl | (simp only [↓upd_apply, ↓put_some, ↓reduceIte, Nat.reduceEqDiff, ↓argEnv_zero, ↓argEnv_succ, *]; done)), (by first | rfl | (simp only [↓upd_apply, ↓put_some, ↓reduceIte, Nat.reduceEqDiff, ↓argEnv_zero, ↓argEnv_succ, *]; done)), rfl, by omega, by omega, by simp, rfl, rfl⟩ ?_
 rintro m e S ⟨i, acc, s0, s3, s4, rfl, hi, hil, hacc, hrd, rfl⟩
 by_cases hlt : i < x.rest.length
 rotate_left
 ·have hnum : x.num = (0, Co.fail) := by unfold R.num; rw [hrd, List.drop_eq_nil_of_le (by omega)]; rfl
  rw [hnum]
  refine runf (an @s0 (an @s3 @s4)) ?_
  refine c1 0 (fail_c x) ?_
  refine runf (an @s0 (an @s3 @s4)) ?_
  exact er1
 have hdr : x.rest.drop i = x.rest[i] :: x.rest.drop (i + 1) := List.drop_eq_getElem_cons hlt
 have hg : x.rest[i]? = some x.rest[i] := List.getElem?_eq_getElem hlt
 generalize x.rest[i] = d at *
 have hu : u8 d = .it .u8 (d.toNat : Int) := rfl
 rw [hdr, rdN_cons] at hrd
 by_cases h9 : 9 ≤ i
 ·rw [if_pos h9] at hrd
  have hnum : x.num = (0, Co.fail) := by unfold R.num; rw [hrd]
  rw [hnum]
  refine runf (an @s0 (an @s3 @s4)) ?_
  refine c1 0 (fail_c x) ?_
  refine runf (an @s0 (an @s3 @s4)) ?_
  exact er1
 rw [if_neg h9] at hrd
 have hd : d.toNat < 256 := d.toNat_lt
 have hp : 2 ^ (7 * (i + 1)) = 128 * 2 ^ (7 * i) := by rw [show 7 * (i + 1) = 7 + 7 * i from by omega, Nat.pow_add]
 have hq : 2 ^ (7 * (i + 1)) ≤ 2 ^ 63 := Nat.pow_le_pow_right (by omega) (by omega)
 have hshl : ∀ c : Nat, c ≤ 127 → aShl .i64 (c : Int) (7 * (i : Int)) = some (.it .i64 ((c * 2 ^ (7 * i) : Nat) : Int)) := fun c hc => by
  have hc' : c * 2 ^ (7 * i) ≤ 127 * 2 ^ (7 * i) := Nat.mul_le_mul_right _ hc
  unfold aShl
  rw [if_pos (by omega)]
  congr 2
  rw [show ((7 : Int) * (i : Int)).toNat = 7 * i from by omega, show min (7 * i) IntKind.i64.bits = 7 * i from Nat.min_eq_left (by show _ ≤ 64; omega)]
  rw [show ((c : Int) * 2 ^ (7 * i)) = ((c * 2 ^ (7 * i) : Nat) : Int) from by push_cast; rfl]
  exact wrap64 (by omega) (by omega)
 by_cases h128 : 128 ≤ d.toNat
 ·rw [if_pos h128] at hrd
  have hc : (d.toNat - 128) * 2 ^ (7 * i) ≤ 127 * 2 ^ (7 * i) := Nat.mul_le_mul_right _ (by omega)
  have hsub : IntKind.u8.wrap ((d.toNat : Int) - 128) = ((d.toNat - 128 : Nat) : Int) := by rw [wrap8 (by omega) (by omega)]; omega
  have hsh := hshl (d.toNat - 128) (by omega)
  have hor := or_add acc (d.toNat - 128) (7 * i) hacc (by omega)
  generalize (d.toNat - 128) * 2 ^ (7 * i) = c at *
  refine runf (an @s0 (an @s3 (an @s4 (an @hg (an @hu (an @hsub (an @hsh @hor))))))) ?_
  exact round_mk (9 - (i + 1)) (by omega) ⟨i + 1, acc + c, (by first | rfl | (simp only [↓upd_apply, ↓put_some, ↓reduceIte, Nat.reduceEqDiff, ↓argEnv_zero, ↓argEnv_succ, *]; done)), (by first | rfl | (simp only [↓upd_apply, ↓put_some, ↓reduceIte, Nat.reduceEqDiff, ↓argEnv_zero, ↓argEnv_succ, *]; done)), (by first | rfl | (simp only [↓upd_apply, ↓put_some, ↓reduceIte, Nat.reduceEqDiff, ↓argEnv_zero, ↓argEnv_succ, *]; done)), rfl, by omega, by omega, by omega, hrd, rfl⟩
 rw [if_neg h128] at hrd
 by_cases hz : d.toNat = 0 ∧ 0 < i
 ·rw [if_pos hz] at hrd
  have hnum : x.num = (0, Co.fail) := by unfold R.num; rw [hrd]
  have hz0 := hz.1
  have hz1 := hz.2
  rw [hnum]
  refine runf (an @s0 (an @s3 (an @s4 (an @hg (an @hu @hz0))))) ?_
  refine c1 0 (fail_c x) ?_
  refine runf (an @s0 (an @s3 @s4)) ?_
  exact er1
 ·rw [if_neg hz] at hrd
  have hnum : x.num = (acc + d.toNat * 2 ^ (7 * i), ⟨x.rest.drop (i + 1), x.bad⟩) := by unfold R.num; rw [hrd]
  have hc : d.toNat * 2 ^ (7 * i) ≤ 127 * 2 ^ (7 * i) := Nat.mul_le_mul_right _ (by omega)
  have hsh := hshl d.toNat (by omega)
  have hor := or_add acc d.toNat (7 * i) hacc (by omega)
  rw [hnum]
  generalize d.toNat * 2 ^ (7 * i) = c at *
  have hdd : x.rest.take x.rest.length = x.rest := List.take_length
  by_cases hz0 : d.toNat = 0
  ·have hi0 : i = 0 := by omega
   subst hi0
   refine runf (an @s0 (an @s3 (an @s4 (an @hg (an @hu (an @hsh (an @hor @hdd))))))) ?_
   exact er1
  ·refine runf (an @s0 (an @s3 (an @s4 (an @hg (an @hu (an @hsh (an @hor @hdd))))))) ?_
   exact er1
end Go.Proofs.Ytjicccjpooahoaa.Pe
namespace Go.Proofs.Ytjicccjpooahoaa.Pe
open Go Co
variable [Tab]
set_option maxRecDepth 100000
theorem num_len9 {n : Nat} (h : n < 9223372036854775808) : (num n).length ≤ 9 := num_le 8 n (by omega)
theorem text_len {s : By} (h : s.length ≤ 1000000) : (text s).length ≤ 1000009 := by
 have := num_len9 (n := s.length) (by omega)
 unfold text; rw [List.length_append]; omega
theorem fl_take {l : List By} {k : Nat} (hk : k < l.length) : ((l.take (k + 1)).map text).flatten = ((l.take k).map text).flatten ++ text l[k] := by
 rw [List.take_succ_eq_append_getElem hk, List.map_append, List.flatten_append]
 congr 1
 exact List.append_nil _
theorem fl_len {l : List By} (hx : ∀ x ∈ l, x.length ≤ 1000000) : (l.map text).flatten.length ≤ l.length * 1000009 := by
 induction l with
 | nil => simp
 | cons a l ih =>
  have h1 := ih fun x h => hx x (by simp [h])
  have h2 := text_len (hx a (by simp))
  rw [List.map_cons, List.flatten_cons, List.length_append, List.length_cons, Nat.succ_mul]; omega
theorem list_len {l : List By} (hl : l.length ≤ 1000000) (hx : ∀ x ∈ l, x.length ≤ 1000000) : (list l).length ≤ 1000009000009 := by
 have := num_len9 (n := l.length) (by omega)
 have h2 := fl_len hx
 have h3 : l.length * 1000009 ≤ 1000000 * 1000009 := Nat.mul_le_mul_right _ hl
 unfold list; rw [List.length_append]; omega
end Go.Proofs.Ytjicccjpooahoaa.Pe
