/- Several texts in one, without what this claim does not use (tools/shake.py). -/
import Derived.Test.YtleljbiejeofgaaGreatDoorKa6
import Derived.Test.YtleljbiejeofgaaGreatDoorKa7
import Derived.Lib.DecodeN
import Derived.Test.YtleljbiejeofgaaGreatDoorChecked
import Derived.WalkKit
import Derived.ProofKit
import Derived.WalkSpells
import Derived.Lib.Hide
import Derived.WalkLawsBesides
import Derived.BigRegion
import Derived.RegionTactic
import Derived.BigQuiet
import Derived.Deep.RegionLaw
import Derived.Shelf.Strings.Builder1
import Derived.Shelf.Strings.Builder2
import Derived.Shelf.Strings.OnBuilder
import Derived.Shelf.Bits.Mul64
import Derived.Ground.SlgmProg
import Derived.Shelf.SortM.Plain
import Derived.Shelf.SortM.SortNone
import Derived.Test.YtleljbiejeofgaaGreatDoorProg
set_option linter.unusedSectionVars false
set_option linter.unusedVariables false
set_option linter.unusedSimpArgs false
section
namespace Go.Proofs.YtleljbiejeofgaaGreatDoor.Pe
open Go Co
variable [Tab]
set_option maxRecDepth 100000
abbrev sls (l : List By) : AV := .sl .ro (l.map .st)
abbrev rd (x : R) : SObj := .cells [.st x.rest, .bo x.bad]
theorem wrap8 {n : Int} (h : 0 ≤ n) (h' : n < 256) : IntKind.u8.wrap n = n := by
 show n % 2 ^ 8 = n
 omega
theorem ofNat8 {n : Nat} (h : n < 256) : (UInt8.ofNat n).toNat = n := by
 rw [UInt8.toNat_ofNat']; omega
theorem snoc8 (acc : By) (b : UInt8) : acc.map u8 ++ [AV.it .u8 (b.toNat : Int)] = (acc ++ [b]).map u8 := by simp [u8]
theorem num_c (n : Int) (h : n < 9223372036854775808) (h0 : -9223372036854775808 ≤ n) : AC Tryz.prog 75 [.it .i64 n] [] (.st (numI n)) [] := by
 refine AC.enter [] [] Tryz.func75 rfl (by decide) (by decide) (Nat.le_of_ble_eq_true rfl) (by kernel_rfl) ?_; refine zev ?_
 by_cases hn : n < 0
 ·rw [show numI n = [] from if_pos hn]
  refine run ?_
  exact er0
 obtain ⟨k, rfl⟩ := Int.eq_ofNat_of_zero_le (show 0 ≤ n by omega)
 rw [numI_nat]
 refine run ?_
 refine loop_mk' (fun m e S => ∃ (acc : By) (j : Nat), e 0 = .it .i64 (j : Int) ∧ e 3 = .sl (.own 0) (acc.map u8) ∧ S = [.buf acc.length 5 1] ∧ acc ++ num j = num k ∧ j ≤ k ∧ acc.length + j ≤ k ∧ m = j) k _ _ (Weak.reserve 0 3 (es := []) (by rfl) 5 1) ⟨[], k, zsl, zsl, rfl, rfl, Nat.le_refl _, by simp, rfl⟩ ?_
 rintro q e S ⟨acc, q, s0, s3, rfl, hnum, hj, hacc, rfl⟩
 have hal : acc.length ≤ 8 := by
  have e1 := congrArg List.length hnum
  have e2 := num_le 8 k (by omega)
  have e3 := num_len q
  rw [List.length_append] at e1
  omega
 by_cases hs : q < 128
 ·have hb : IntKind.u8.wrap (q : Int) = ((UInt8.ofNat q).toNat : Int) := by rw [wrap8 (by omega) (by omega), ofNat8 (by omega)]
  have hsn := snoc8 acc (UInt8.ofNat q)
  rw [num_small hs] at hnum
  refine runf (an @s0 (an @s3 (an @hb @hsn))) ?_
  rw [← hnum]
  exact er0
 ·have ht : (q : Int).tmod 128 = ((q % 128 : Nat) : Int) := by rw [Int.tmod_eq_emod_of_nonneg (by omega)]; omega
  have hd : (q : Int).tdiv 128 = ((q / 128 : Nat) : Int) := by rw [Int.tdiv_eq_ediv_of_nonneg (by omega)]; omega
  have hb : IntKind.u8.wrap (128 + ((q % 128 : Nat) : Int)) = ((UInt8.ofNat (128 + q % 128)).toNat : Int) := by rw [wrap8 (by omega) (by omega), ofNat8 (by omega)]; omega
  rw [num_big hs] at hnum
  refine runf (an @s0 (an @s3 (an @ht (an @hd @hb)))) ?_
  refine round_mk (q / 128) (by omega) ⟨acc ++ [UInt8.ofNat (128 + q % 128)], q / 128, zsl, by rw [← snoc8]; exact zsl, by rw [List.length_append]; rfl, by rw [List.append_assoc]; exact hnum, by omega, by rw [List.length_append, List.length_singleton]; omega, rfl⟩
theorem text_c (s : By) (h : s.length ≤ 140737488355328) : AC Tryz.prog 74 [.st s] [] (.st (text s)) [] := by
 refine AC.enter [75] [] Tryz.func74 rfl (by decide) (by decide) (Nat.le_of_ble_eq_true rfl) (by kernel_rfl) ?_; refine zev ?_
 have hl := numI_le (s.length : Int) (by omega)
 refine run ?_
 refine cp (num_c s.length (by omega) (by omega)) ?_
 rw [numI_nat] at *
 refine run ?_
 exact er0
theorem open_c (s : By) : AC Tryz.prog 101 [.st s] [] (.ptr 0 0) [rd ⟨s, false⟩] := by
 refine AC.enter [] [] Tryz.func101 rfl (by decide) (by decide) (Nat.le_of_ble_eq_true rfl) (by kernel_rfl) ?_; refine zev ?_
 refine run ?_
 exact ends_ret [0] (by rfl) (subOk_one 0 (by rfl) (by rfl)) (by rfl) (by rfl) (by rfl)
theorem fail_c (x : R) : AC Tryz.prog 150 [.ptr 0 0] [rd x] (.tup []) [rd Co.fail] := by
 refine AC.enter [] [] Tryz.func150 rfl (by decide) (by decide) (Nat.le_of_ble_eq_true rfl) (by kernel_rfl) ?_; refine zev ?_
 refine run ?_
 exact en1
theorem left_c (x : R) : AC Tryz.prog 144 [.ptr 0 0] [rd x] (.it .i64 x.rest.length) [rd x] := by
 refine AC.enter [] [] Tryz.func144 rfl (by decide) (by decide) (Nat.le_of_ble_eq_true rfl) (by kernel_rfl) ?_; refine zev ?_
 refine run ?_
 exact er1
theorem take_c (x : R) (n : Nat) (hn : n < 9223372036854775808) (hx : x.rest.length < 9223372036854775808) : AC Tryz.prog 145 [.ptr 0 0, .it .i64 n] [rd x] (.st (x.take n).1) [rd (x.take n).2] := by
 refine AC.enter [] [] Tryz.func145 rfl (by decide) (by decide) (Nat.le_of_ble_eq_true rfl) (by kernel_rfl) ?_; refine zev ?_
 obtain ⟨r, b⟩ := x
 unfold R.take
 cases b
 rotate_left
 ·rw [if_pos (.inl rfl)]
  refine run ?_
  refine c1 0 (fail_c ⟨r, true⟩) ?_
  refine run ?_
  exact er1
 by_cases h : r.length < n
 ·rw [if_pos (.inr h)]
  refine run ?_
  refine c1 0 (fail_c ⟨r, false⟩) ?_
  refine run ?_
  exact er1
 ·rw [if_neg (by simp; omega)]
  refine run ?_
  exact er1
set_option maxHeartbeats 3200000 in
theorem rnum_c (x : R) (hx : x.rest.length < 9223372036854775808) : AC Tryz.prog 102 [.ptr 0 0] [rd x] (.it .i64 x.num.1) [rd x.num.2] := by
 refine AC.enter [] [] Tryz.func102 rfl (by decide) (by decide) (Nat.le_of_ble_eq_true rfl) (by kernel_rfl) ?_; refine zev ?_
 refine run ?_
 refine loop_mk (fun m e S => ∃ (i acc : Nat), e 0 = .ptr 0 0 ∧ e 3 = .it .i64 (acc : Int) ∧ e 4 = .it .i64 (i : Int) ∧ S = [rd x] ∧ i ≤ 9 ∧ i ≤ x.rest.length ∧ acc < 2 ^ (7 * i) ∧ rdN x.rest 0 0 = rdN (x.rest.drop i) i acc ∧ m = 9 - i) 9 ⟨0, 0, zsl, zsl, zsl, rfl, by omega, by omega, by simp, rfl, rfl⟩ ?_
 rintro m e S ⟨i, acc, s0, s3, s4, rfl, hi, hil, hacc, hrd, rfl⟩
 by_cases hlt : i < x.rest.length
 rotate_left
 ·have hnum : x.num = (0, Co.fail) := by unfold R.num; rw [hrd, List.drop_eq_nil_of_le (by omega)]; rfl
  rw [hnum]
  refine runf (an @s0 (an @s3 @s4)) ?_
  refine c1 0 (fail_c x) ?_
  refine runf (an @s0 (an @s3 @s4)) ?_
  exact er1
 have hdr : x.rest.drop i = x.rest[i] :: x.rest.drop (i + 1) := List.drop_eq_getElem_cons hlt
 have hg : x.rest[i]? = some x.rest[i] := List.getElem?_eq_getElem hlt
 generalize x.rest[i] = d at *
 have hu : u8 d = .it .u8 (d.toNat : Int) := rfl
 rw [hdr, rdN_cons] at hrd
 by_cases h9 : 9 ≤ i
 ·rw [if_pos h9] at hrd
  have hnum : x.num = (0, Co.fail) := by unfold R.num; rw [hrd]
  rw [hnum]
  refine runf (an @s0 (an @s3 @s4)) ?_
  refine c1 0 (fail_c x) ?_
  refine runf (an @s0 (an @s3 @s4)) ?_
  exact er1
 rw [if_neg h9] at hrd
 have hd : d.toNat < 256 := d.toNat_lt
 have hp : 2 ^ (7 * (i + 1)) = 128 * 2 ^ (7 * i) := by rw [show 7 * (i + 1) = 7 + 7 * i from by omega, Nat.pow_add]
 have hq : 2 ^ (7 * (i + 1)) ≤ 2 ^ 63 := Nat.pow_le_pow_right (by omega) (by omega)
 have hshl : ∀ c : Nat, c ≤ 127 → aShl .i64 (c : Int) (7 * (i : Int)) = some (.it .i64 ((c * 2 ^ (7 * i) : Nat) : Int)) := fun c hc => by
  have hc' : c * 2 ^ (7 * i) ≤ 127 * 2 ^ (7 * i) := Nat.mul_le_mul_right _ hc
  unfold aShl
  rw [if_pos (by omega)]
  congr 2
  rw [show ((7 : Int) * (i : Int)).toNat = 7 * i from by omega, show min (7 * i) IntKind.i64.bits = 7 * i from Nat.min_eq_left (by show _ ≤ 64; omega)]
  rw [show ((c : Int) * 2 ^ (7 * i)) = ((c * 2 ^ (7 * i) : Nat) : Int) from by push_cast; rfl]
  exact wrap64 (by omega) (by omega)
 by_cases h128 : 128 ≤ d.toNat
 ·rw [if_pos h128] at hrd
  have hc : (d.toNat - 128) * 2 ^ (7 * i) ≤ 127 * 2 ^ (7 * i) := Nat.mul_le_mul_right _ (by omega)
  have hsub : IntKind.u8.wrap ((d.toNat : Int) - 128) = ((d.toNat - 128 : Nat) : Int) := by rw [wrap8 (by omega) (by omega)]; omega
  have hsh := hshl (d.toNat - 128) (by omega)
  have hor := or_add acc (d.toNat - 128) (7 * i) hacc (by omega)
  generalize (d.toNat - 128) * 2 ^ (7 * i) = c at *
  refine runf (an @s0 (an @s3 (an @s4 (an @hg (an @hu (an @hsub (an @hsh @hor))))))) ?_
  exact round_mk (9 - (i + 1)) (by omega) ⟨i + 1, acc + c, zsl, zsl, zsl, rfl, by omega, by omega, by omega, hrd, rfl⟩
 rw [if_neg h128] at hrd
 by_cases hz : d.toNat = 0 ∧ 0 < i
 ·rw [if_pos hz] at hrd
  have hnum : x.num = (0, Co.fail) := by unfold R.num; rw [hrd]
  have hz0 := hz.1
  have hz1 := hz.2
  rw [hnum]
  refine runf (an @s0 (an @s3 (an @s4 (an @hg (an @hu @hz0))))) ?_
  refine c1 0 (fail_c x) ?_
  refine runf (an @s0 (an @s3 @s4)) ?_
  exact er1
 ·rw [if_neg hz] at hrd
  have hnum : x.num = (acc + d.toNat * 2 ^ (7 * i), ⟨x.rest.drop (i + 1), x.bad⟩) := by unfold R.num; rw [hrd]
  have hc : d.toNat * 2 ^ (7 * i) ≤ 127 * 2 ^ (7 * i) := Nat.mul_le_mul_right _ (by omega)
  have hsh := hshl d.toNat (by omega)
  have hor := or_add acc d.toNat (7 * i) hacc (by omega)
  rw [hnum]
  generalize d.toNat * 2 ^ (7 * i) = c at *
  have hdd : x.rest.take x.rest.length = x.rest := List.take_length
  by_cases hz0 : d.toNat = 0
  ·have hi0 : i = 0 := by omega
   subst hi0
   refine runf (an @s0 (an @s3 (an @s4 (an @hg (an @hu (an @hsh (an @hor @hdd))))))) ?_
   exact er1
  ·refine runf (an @s0 (an @s3 (an @s4 (an @hg (an @hu (an @hsh (an @hor @hdd))))))) ?_
   exact er1
theorem num_len9 {n : Nat} (h : n < 9223372036854775808) : (num n).length ≤ 9 := num_le 8 n (by omega)
theorem text_len {s : By} (h : s.length ≤ 1000000) : (text s).length ≤ 1000009 := by
 have := num_len9 (n := s.length) (by omega)
 unfold text; rw [List.length_append]; omega
theorem fl_take {l : List By} {k : Nat} (hk : k < l.length) : ((l.take (k + 1)).map text).flatten = ((l.take k).map text).flatten ++ text l[k] := by
 rw [List.take_succ_eq_append_getElem hk, List.map_append, List.flatten_append]
 congr 1
 exact List.append_nil _
theorem fl_len {l : List By} (hx : ∀ x ∈ l, x.length ≤ 1000000) : (l.map text).flatten.length ≤ l.length * 1000009 := by
 induction l with
 | nil => simp
 | cons a l ih =>
  have h1 := ih fun x h => hx x (by simp [h])
  have h2 := text_len (hx a (by simp))
  rw [List.map_cons, List.flatten_cons, List.length_append, List.length_cons, Nat.succ_mul]; omega
theorem list_len {l : List By} (hl : l.length ≤ 1000000) (hx : ∀ x ∈ l, x.length ≤ 1000000) : (list l).length ≤ 1000009000009 := by
 have := num_len9 (n := l.length) (by omega)
 have h2 := fl_len hx
 have h3 : l.length * 1000009 ≤ 1000000 * 1000009 := Nat.mul_le_mul_right _ hl
 unfold list; rw [List.length_append]; omega
theorem writeList_c (l : List By) (hl : l.length ≤ 1000000) (hx : ∀ x ∈ l, x.length ≤ 1000000) : AC Tryz.prog 227 [sls l, .fn (.func 74) [] []] [] (.st (list l)) [] := by
 refine AC.enter [75, 1000019] [] Tryz.func227 rfl (by decide) (by decide) (Nat.le_of_ble_eq_true rfl) (by kernel_rfl) ?_; refine zev ?_
 have hn9 := num_len9 (n := l.length) (by omega)
 refine run ?_
 refine cp (num_c l.length (by omega) (by omega)) ?_
 rw [numI_nat]
 refine run ?_
 refine loop_mk (fun m e S => e 1 = .fn (.func 74) [] [] ∧ e 12 = sls l ∧ e 13 = .it .i64 (l.length : Int) ∧ ∃ (k : Nat) (acc : By), e 5 = .sl (.own 0) (acc.map u8) ∧ e 14 = .it .i64 (k : Int) ∧ S = [.buf acc.length 5 1] ∧ acc = num l.length ++ ((l.take k).map text).flatten ∧ k ≤ l.length ∧ m = l.length - k) l.length
  ⟨zsl, zsl, zsl, 0, num l.length, zsl, zsl, rfl, by simp, by omega, rfl⟩ ?_
 rintro m e S ⟨s1, s12, s13, k, acc, s5, s14, rfl, hacc, hk, rfl⟩
 by_cases hlt : k < l.length
 ·have ga : l[k]? = some l[k] := List.getElem?_eq_getElem hlt
  have hxk := hx l[k] (List.getElem_mem hlt)
  have htl := text_len hxk
  have hal : acc.length ≤ 1000009000009 := by
   have h1 := fl_len (l := l.take k) fun x h => hx x (List.mem_of_mem_take h)
   have h2 : (l.take k).length * 1000009 ≤ 1000000 * 1000009 := Nat.mul_le_mul_right _ (by rw [List.length_take]; omega)
   rw [hacc, List.length_append]; omega
  have hft := fl_take hlt
  generalize l[k] = x at *
  refine runf (an @s1 (an @s5 (an @s12 (an @s13 (an @s14 @ga))))) ?_
  refine cp (text_c x (by omega)) ?_
  refine runf (an @s1 (an @s5 (an @s12 (an @s13 @s14)))) ?_
  refine round_mk (l.length - (k + 1)) (by omega) ⟨zsl, zsl, zsl, k + 1, acc ++ text x, by rw [List.map_append]; exact zsl, zsl, by rw [List.length_append], by rw [hacc, hft, List.append_assoc], by omega, rfl⟩
 ·obtain rfl : k = l.length := by omega
  rw [List.take_length] at hacc
  refine runf (an @s1 (an @s5 (an @s12 (an @s13 @s14)))) ?_
  rw [show list l = acc from hacc.symm]
  exact er0
theorem list_c (l : List By) (hl : l.length ≤ 1000000) (hx : ∀ x ∈ l, x.length ≤ 1000000) : AC Tryz.prog 202 [sls l] [] (.st (list l)) [] := by
 refine AC.enter [227] [] Tryz.func202 rfl (by decide) (by decide) (Nat.le_of_ble_eq_true rfl) (by kernel_rfl) ?_; refine zev ?_
 refine run ?_
 refine cp (writeList_c l hl hx) ?_
 refine run ?_
 exact er0
end Go.Proofs.YtleljbiejeofgaaGreatDoor.Pe
end
section
namespace Go.Proofs.YtleljbiejeofgaaGreatDoor.Pe
open Go Co Ac
variable [Tab]
set_option maxRecDepth 100000
theorem dec_big (n b0 b1 b2 b3 : Nat) (h : 128 ≤ b0) : 128 ≤ (Lib.decodeN n b0 b1 b2 b3).1 := by
 unfold Lib.decodeN
 rw [if_neg (by omega)]
 split
 ·split
  ·assumption
  ·decide
 split
 ·split
  ·rename_i h; exact Nat.le_trans (by decide) h.1
  ·decide
 split
 ·split
  ·rename_i h; exact Nat.le_trans (by decide) h.1
  ·decide
 ·decide
theorem rune_at (l : By) (i : Nat) (h : i < l.length) : ∃ r w, runeAt l i = (r, w) ∧ (l[i].toNat < 128 → r = l[i].toNat ∧ w = 1) ∧ (128 ≤ l[i].toNat → 128 ≤ r) := by
 have hg : ((⟨l.toArray⟩ : ByteArray).get! i).toNat = l[i].toNat := by
  show (l.toArray[i]!).toNat = _
  rw [getElem!_pos l.toArray i (by simpa using h)]
  simp
 have e : ∃ n b1 b2 b3, runeAt l i = Lib.decodeN n l[i].toNat b1 b2 b3 := by
  unfold runeAt
  rw [Lib.decode_at, hg]
  exact ⟨_, _, _, _, rfl⟩
 obtain ⟨n, b1, b2, b3, e⟩ := e
 refine ⟨(runeAt l i).1, (runeAt l i).2, rfl, fun hb => ?_, fun hb => ?_⟩
 ·rw [e]
  unfold Lib.decodeN
  rw [if_pos hb]
  exact ⟨rfl, rfl⟩
 ·rw [e]
  exact dec_big _ _ _ _ _ hb
theorem isdigit_c (n : Int) : AC Tryz.prog 231 [.it .i32 n] [] (.bo (decide (48 ≤ n) && decide (n ≤ 57))) [] := by
 refine AC.enter [] [] Tryz.func231 rfl (by decide) (by decide) (Nat.le_of_ble_eq_true rfl) (by kernel_rfl) ?_; refine zev ?_
 by_cases h : 48 ≤ n
 ·rw [decide_eq_true h]
  refine run ?_
  exact er0
 ·rw [decide_eq_false h]
  refine run ?_
  exact er0
theorem idright_c (s : By) (hs : s.length ≤ 140737488355328) : AC Tryz.prog 206 [.st s] [] (.bo (idR s)) [] := by
 refine AC.enter [231] [] Tryz.func206 rfl (by decide) (by decide) (Nat.le_of_ble_eq_true rfl) (by kernel_rfl) ?_; refine zev ?_
 unfold idR
 by_cases hl : s.length = 16
 rotate_left
 ·rw [decide_eq_false hl]
  refine run ?_
  exact er0
 rw [decide_eq_true hl]
 refine run ?_
 refine loop_mk (fun m e S => e 0 = .st s ∧ e 9 = .ptr 0 0 ∧ ∃ k : Nat, S = [.siter s k] ∧ k ≤ s.length ∧ (s.take k).all hexc = true ∧ m = s.length - k) s.length ⟨zsl, zsl, 0, rfl, by omega, rfl, rfl⟩ ?_
 rintro m e S ⟨s0, s9, k, rfl, hk, hall, rfl⟩
 by_cases hlt : k < s.length
 rotate_left
 ·obtain rfl : k = s.length := by omega
  rw [List.take_length] at hall
  rw [hall]
  refine runf (an @s0 (an @s9 @hlt)) ?_
  exact er0
 obtain ⟨r, w, hr, h1, h2⟩ := rune_at s k hlt
 have hx : hexc s[k] = true ↔ (48 ≤ r ∧ r ≤ 57) ∨ (97 ≤ r ∧ r ≤ 102) := by
  unfold hexc
  simp only [Bool.or_eq_true, Bool.and_eq_true, decide_eq_true_eq]
  by_cases h : s[k].toNat < 128
  ·rw [(h1 h).1]
  ·have := h2 (by omega); omega
 have hstep : s.take (k + 1) = s.take k ++ [s[k]] := List.take_succ_eq_append_getElem hlt
 have hbad : hexc s[k] = false → s.all hexc = false := fun h => List.all_eq_false.2 ⟨s[k], List.getElem_mem hlt, by simp [h]⟩
 have hgood : hexc s[k] = true → w = 1 := fun h => by
  refine (h1 ?_).2
  refine Nat.lt_of_not_le fun h' => ?_
  have := h2 h'
  have := hx.1 h
  omega
 generalize s[k] = b at *
 clear h1 h2
 cases hb : hexc b with
 | true =>
  obtain rfl := hgood hb
  have hc := hx.1 hb
  refine runf (an @s0 (an @s9 (an @hlt @hr))) ?_
  refine cp (isdigit_c r) ?_
  rcases hc with ⟨c1, c2⟩ | ⟨c1, c2⟩
  ·refine runf (an @s0 @s9) ?_
   exact round_mk (s.length - (k + 1)) (by omega) ⟨zsl, zsl, k + 1, rfl, by omega, by rw [hstep, List.all_append, hall]; simp [hb], rfl⟩
  ·refine runf (an @s0 @s9) ?_
   exact round_mk (s.length - (k + 1)) (by omega) ⟨zsl, zsl, k + 1, rfl, by omega, by rw [hstep, List.all_append, hall]; simp [hb], rfl⟩
 | false =>
  rw [hbad hb]
  have hc : ¬ ((48 ≤ r ∧ r ≤ 57) ∨ (97 ≤ r ∧ r ≤ 102)) := fun h => by rw [hx.2 h] at hb; cases hb
  clear hbad hgood hx
  refine runf (an @s0 (an @s9 (an @hlt @hr))) ?_
  refine cp (isdigit_c r) ?_
  by_cases c1 : r < 48
  ·refine runf (an @s0 @s9) ?_
   exact er0
  by_cases c2 : r < 97
  ·refine runf (an @s0 @s9) ?_
   exact er0
  ·refine runf (an @s0 @s9) ?_
   exact er0
theorem nameR_false {s : By} {k : Nat} (hk : k < s.length) (h : (if k = 0 then letter s[k] else namec s[k]) = false) : nameR s = false := by
 cases s with
 | nil => rfl
 | cons c r =>
  show (decide (r.length ≤ 23) && letter c && r.all namec) = false
  cases k with
  | zero => simp at h; simp [h]
  | succ k =>
   simp only [List.getElem_cons_succ, Nat.add_one_ne_zero, if_false] at h
   have : r.all namec = false := List.all_eq_false.2 ⟨_, List.getElem_mem (by simpa using hk), by rw [h]; simp⟩
   rw [this]
   simp
theorem nameR_true {s : By} (h0 : 0 < s.length) (hl : s.length ≤ 24) (h : ∀ j (hj : j < s.length), (if j = 0 then letter s[j] else namec s[j]) = true) : nameR s = true := by
 cases s with
 | nil => simp at h0
 | cons c r =>
  show (decide (r.length ≤ 23) && letter c && r.all namec) = true
  have h1 := h 0 (by simp)
  simp only [List.getElem_cons_zero, if_true] at h1
  have h2 : r.all namec = true := List.all_eq_true.2 fun x hx => by
   obtain ⟨j, hj, rfl⟩ := List.getElem_of_mem hx
   have := h (j + 1) (by simp; omega)
   simpa using this
  simp only [List.length_cons] at hl
  rw [h1, h2, decide_eq_true (by omega)]
  rfl
theorem nameR_long {s : By} (h : 24 < s.length) : nameR s = false := by
 cases s with
 | nil => rfl
 | cons c r =>
  simp only [List.length_cons] at h
  show (decide (r.length ≤ 23) && letter c && r.all namec) = false
  rw [decide_eq_false (by omega)]
  rfl
set_option maxHeartbeats 1600000 in
theorem name_c (s : By) (hs : s.length ≤ 140737488355328) : AC Tryz.prog 240 [.st s] [] (.bo (nameR s)) [] := by
 refine AC.enter [231] [] Tryz.func240 rfl (by decide) (by decide) (Nat.le_of_ble_eq_true rfl) (by kernel_rfl) ?_; refine zev ?_
 by_cases h0 : s = []
 ·subst h0
  rw [show nameR [] = false from rfl]
  refine run ?_
  exact er0
 have hne : (s == []) = false := by simpa using h0
 have hpos : 0 < s.length := List.length_pos_iff.2 h0
 by_cases hl : 24 < s.length
 ·rw [nameR_long hl]
  refine runf @hne ?_
  exact er0
 refine runf @hne ?_
 refine loop_mk (fun m e S => e 0 = .st s ∧ e 14 = .ptr 0 0 ∧ ∃ k : Nat, S = [.siter s k] ∧ k ≤ s.length ∧ (∀ j (hj : j < s.length), j < k → (if j = 0 then letter s[j] else namec s[j]) = true) ∧ m = s.length - k) s.length ⟨zsl, zsl, 0, rfl, by omega, fun j _ h => absurd h (Nat.not_lt_zero _), rfl⟩ ?_
 rintro m e S ⟨s0, s14, k, rfl, hk, hall, rfl⟩
 by_cases hlt : k < s.length
 rotate_left
 ·rw [nameR_true hpos (by omega) fun j hj => hall j hj (by omega)]
  refine runf (an @s0 (an @s14 @hlt)) ?_
  exact er0
 obtain ⟨r, w, hr, h1, h2⟩ := rune_at s k hlt
 have hx : (if k = 0 then letter s[k] else namec s[k]) = true ↔ (97 ≤ r ∧ r ≤ 122) ∨ (k ≠ 0 ∧ ((48 ≤ r ∧ r ≤ 57) ∨ r = 95)) := by
  have h3 : s[k].toNat = r ∨ (128 ≤ s[k].toNat ∧ 128 ≤ r) := by
   by_cases h : s[k].toNat < 128
   ·exact .inl (h1 h).1.symm
   ·exact .inr ⟨by omega, h2 (by omega)⟩
  split
  ·rename_i hk0
   simp only [letter, Bool.and_eq_true, decide_eq_true_eq]
   omega
  ·rename_i hk0
   simp only [namec, letter, Bool.or_eq_true, Bool.and_eq_true, decide_eq_true_eq]
   omega
 have hbad := fun h => nameR_false (s := s) (k := k) hlt h
 have hgood : (if k = 0 then letter s[k] else namec s[k]) = true → w = 1 := fun h => by
  refine (h1 ?_).2
  refine Nat.lt_of_not_le fun h' => ?_
  have := h2 h'
  have := hx.1 h
  omega
 have hnext : (if k = 0 then letter s[k] else namec s[k]) = true → ∀ j (hj : j < s.length), j < k + 1 → (if j = 0 then letter s[j] else namec s[j]) = true := fun h j hj hjk => by
  by_cases e : j = k
  ·subst e; exact h
  ·exact hall j hj (by omega)
 generalize (if k = 0 then letter s[k] else namec s[k]) = b at *
 clear h1 h2
 cases b with
 | true =>
  obtain rfl := hgood rfl
  have hc := hx.1 rfl
  have hn := hnext rfl
  clear hbad hgood hx hnext
  rcases hc with c1 | ⟨c0, c1⟩
  ·refine runf (an @s0 (an @s14 (an @hlt @hr))) ?_
   exact round_mk (s.length - (k + 1)) (by omega) ⟨zsl, zsl, k + 1, rfl, by omega, hn, rfl⟩
  ·have c00 : ¬ ((k : Int) = 0) := by omega
   by_cases cl : r < 97
   focus
    refine runf (an @s0 (an @s14 (an @hlt @hr))) ?_
    refine cp (isdigit_c r) ?_
    rcases c1 with c1 | c1
    ·refine runf (an @s0 @s14) ?_
     exact round_mk (s.length - (k + 1)) (by omega) ⟨zsl, zsl, k + 1, rfl, by omega, hn, rfl⟩
    ·subst c1
     refine runf (an @s0 @s14) ?_
     exact round_mk (s.length - (k + 1)) (by omega) ⟨zsl, zsl, k + 1, rfl, by omega, hn, rfl⟩
   exact absurd c1 (by omega)
 | false =>
  rw [hbad rfl]
  have hc : ¬ ((97 ≤ r ∧ r ≤ 122) ∨ (k ≠ 0 ∧ ((48 ≤ r ∧ r ≤ 57) ∨ r = 95))) := fun h => by have := hx.2 h; cases this
  clear hbad hgood hx hnext hall
  by_cases hk0 : k = 0
  ·subst hk0
   by_cases c1 : r < 97
   ·refine runf (an @s0 (an @s14 (an @hlt @hr))) ?_
    exact er0
   ·refine runf (an @s0 (an @s14 (an @hlt @hr))) ?_
    exact er0
  by_cases c1 : r < 97
  focus
   refine runf (an @s0 (an @s14 (an @hlt @hr))) ?_
   refine cp (isdigit_c r) ?_
   by_cases c2 : r < 48
   ·refine runf (an @s0 @s14) ?_
    exact er0
   ·refine runf (an @s0 @s14) ?_
    exact er0
  focus
   refine runf (an @s0 (an @s14 (an @hlt @hr))) ?_
   refine cp (isdigit_c r) ?_
   refine runf (an @s0 @s14) ?_
   exact er0
theorem asc_true : ∀ {l : List By}, (∀ j (h : j + 1 < l.length), (Op.bytesLess l[j + 1] l[j] || l[j + 1] == l[j]) = false) → asc l = true
 | [], _ => rfl
 | [_], _ => rfl
 | a :: b :: r, h => by
  unfold asc
  have h0 := h 0 (by simp)
  simp only [List.getElem_cons_succ, List.getElem_cons_zero] at h0
  rw [h0, asc_true fun j hj => by
   have := h (j + 1) (by simp at hj ⊢; omega)
   simpa using this]
  rfl
theorem asc_false : ∀ {l : List By} {j : Nat} (h : j + 1 < l.length), (Op.bytesLess l[j + 1] l[j] || l[j + 1] == l[j]) = true → asc l = false
 | [], _, h, _ => by simp at h
 | [_], _, h, _ => by simp at h
 | a :: b :: r, 0, _, h => by
  simp only [List.getElem_cons_succ, List.getElem_cons_zero] at h
  unfold asc
  rw [h]
  rfl
 | a :: b :: r, j + 1, hj, h => by
  unfold asc
  rw [asc_false (l := b :: r) (j := j) (by simp at hj ⊢; omega) (by simpa using h)]
  simp
set_option maxHeartbeats 1600000 in
theorem ids_c (l : List By) (hs : ∀ s ∈ l, s.length ≤ 140737488355328) (hl : l.length ≤ 140737488355328) : AC Tryz.prog 243 [sls l] [] (.bo (idsR l)) [] := by
 refine AC.enter [206] [] Tryz.func243 rfl (by decide) (by decide) (Nat.le_of_ble_eq_true rfl) (by kernel_rfl) ?_; refine zev ?_
 unfold idsR
 by_cases h64 : l.length ≤ 64
 rotate_left
 ·rw [decide_eq_false h64]
  refine run ?_
  exact er0
 rw [decide_eq_true h64]
 refine run ?_
 refine loop_mk (fun m e S => S = [] ∧ e 0 = sls l ∧ e 8 = sls l ∧ e 9 = .it .i64 (l.length : Int) ∧ ∃ k : Nat, e 10 = .it .i64 (k : Int) ∧ k ≤ l.length ∧ (∀ j (h : j < l.length), j < k → idR l[j] = true) ∧
  (∀ j (h : j + 1 < l.length), j + 1 < k → (Op.bytesLess l[j + 1] l[j] || l[j + 1] == l[j]) = false) ∧ m = l.length - k) l.length ⟨rfl, zsl, zsl, zsl, 0, zsl, by omega, fun j _ h => absurd h (Nat.not_lt_zero _), fun j _ h => absurd h (Nat.not_lt_zero _), rfl⟩ ?_
 rintro m e S ⟨rfl, s0, s8, s9, k, s10, hk, hid, hasc, rfl⟩
 by_cases hlt : k < l.length
 rotate_left
 ·obtain rfl : k = l.length := by omega
  have h1 : l.all idR = true := List.all_eq_true.2 fun x hx => by
   obtain ⟨j, hj, rfl⟩ := List.getElem_of_mem hx
   exact hid j hj hj
  rw [h1, asc_true fun j h => hasc j h h]
  refine runf (an @s0 (an @s8 (an @s9 @s10))) ?_
  exact er0
 have hg : l[k]? = some l[k] := List.getElem?_eq_getElem hlt
 have hsk := hs l[k] (List.getElem_mem hlt)
 refine runf (an @s0 (an @s8 (an @s9 (an @s10 @hg)))) ?_
 refine cp (idright_c l[k] hsk) ?_
 cases hb : idR l[k] with
 | false =>
  have : l.all idR = false := List.all_eq_false.2 ⟨l[k], List.getElem_mem hlt, by simp [hb]⟩
  rw [this]
  refine runf (an @s0 (an @s8 (an @s9 @s10))) ?_
  exact er0
 | true =>
  have hid' : ∀ j (h : j < l.length), j < k + 1 → idR l[j] = true := fun j h hj => by
   by_cases e : j = k
   ·subst e; exact hb
   ·exact hid j h (by omega)
  cases k with
  | zero =>
   refine runf (an @s0 (an @s8 (an @s9 (an @s10 @hg)))) ?_
   exact round_mk (l.length - 1) (by omega) ⟨rfl, zsl, zsl, zsl, 1, zsl, by omega, hid', fun j _ h => by omega, rfl⟩
  | succ k =>
   have hg' : l[k]? = some l[k] := List.getElem?_eq_getElem (by omega)
   have hc : ((k + 1 : Nat) : Int) - 1 = (k : Int) := by omega
   have hpos : (0 : Int) < ((k + 1 : Nat) : Int) := by omega
   cases hcmp : (Op.bytesLess l[k + 1] l[k] || l[k + 1] == l[k]) with
   | true =>
    rw [asc_false (j := k) hlt hcmp, Bool.and_false]
    refine runf (an @s0 (an @s8 (an @s9 (an @s10 (an @hg (an @hg' (an @hc @hcmp))))))) ?_
    exact er0
   | false =>
    refine runf (an @s0 (an @s8 (an @s9 (an @s10 (an @hg (an @hg' (an @hc @hcmp))))))) ?_
    exact round_mk (l.length - (k + 1 + 1)) (by omega) ⟨rfl, zsl, zsl, zsl, k + 1 + 1, zsl, by omega, hid', fun j h hj => by
     by_cases e : j = k
     ·subst e; exact hcmp
     ·exact hasc j h (by omega), rfl⟩
end Go.Proofs.YtleljbiejeofgaaGreatDoor.Pe
end
section
namespace Go.Proofs.YtleljbiejeofgaaGreatDoor.Pe
open Go
variable [Tab]
set_option maxRecDepth 100000
def blen (n : Nat) : Nat := if n = 0 then 0 else Nat.log2 n + 1
theorem blen_shift {n s : Nat} (h : 2 ^ s ≤ n) : blen n = blen (n / 2 ^ s) + s := by
 have hp : 0 < 2 ^ s := Nat.pow_pos (by omega)
 have h1 : 0 < n / 2 ^ s := Nat.div_pos h hp
 unfold blen
 rw [if_neg (by omega), if_neg (by omega)]
 have e : Nat.log2 n = Nat.log2 (n / 2 ^ s) + s := by
  have h2 := (Nat.log2_eq_iff (n := n / 2 ^ s) (k := Nat.log2 (n / 2 ^ s)) (by omega)).1 rfl
  refine (Nat.log2_eq_iff (by omega)).2 ⟨?_, ?_⟩
  ·rw [Nat.pow_add]
   exact (Nat.le_div_iff_mul_le hp).1 h2.1
  ·rw [show Nat.log2 (n / 2 ^ s) + s + 1 = (Nat.log2 (n / 2 ^ s) + 1) + s from by omega, Nat.pow_add]
   exact (Nat.div_lt_iff_lt_mul hp).1 h2.2
 omega
theorem shr_lit (n : Nat) (b : Int) (s : Nat) (h : b = (s : Int)) (h' : s ≤ 64) : aShr .u64 (n : Int) b = some (.it .u64 ((n / 2 ^ s : Nat) : Int)) := by
 subst h
 unfold aShr
 rw [if_pos (by omega)]
 congr 2
 rw [Int.toNat_natCast, show min s IntKind.u64.bits = s from Nat.min_eq_left h']
 rw [Int.fdiv_eq_ediv_of_nonneg _ (by exact Int.le_of_lt (Int.pow_pos (by omega)))]
 norm_cast
theorem u8_small (x : Nat) (h : x < 256) : IntKind.u8.wrap (x : Int) = (x : Int) := by
 rw [wrap8n]
 simp; omega
theorem blen_le (x : Nat) : blen x ≤ x + 1 := by
 unfold blen
 split
 ·omega
 ·have := Nat.log2_lt (n := x) (k := x) (by assumption)
  have := this.2 Nat.lt_two_pow_self
  omega
theorem tab_idx (L : List UInt8) (hL : ∀ x, x < 256 → L[x]? = some (UInt8.ofNat (blen x))) (x : Nat) (h : x < 256) : (if 0 ≤ (x : Int) then Option.map u8 L[x]? else none) = some (.it .u8 (blen x : Int)) := by
 rw [if_pos (by omega), hL x h]
 have : blen x < 256 := by
  have : blen x ≤ 8 := by
   unfold blen
   split
   ·omega
   ·have := (Nat.log2_lt (n := x) (k := 8) (by assumption)).2 (by omega)
    omega
  omega
 simp only [u8, Option.map_some]
 congr 2
 simp; omega
set_option maxHeartbeats 2000000 in
theorem len64_c (n : Nat) (h : n < 18446744073709551616) : AC Tryz.prog 126 [.it .u64 n] [] (.it .i64 (blen n)) [] := by
 have s8 : ∀ n : Nat, aShr .u64 (n : Int) 8 = some (.it .u64 ((n / 2 ^ 8 : Nat) : Int)) := fun n => shr_lit n 8 8 rfl (by omega)
 have s16 : ∀ n : Nat, aShr .u64 (n : Int) 16 = some (.it .u64 ((n / 2 ^ 16 : Nat) : Int)) := fun n => shr_lit n 16 16 rfl (by omega)
 have s32 : ∀ n : Nat, aShr .u64 (n : Int) 32 = some (.it .u64 ((n / 2 ^ 32 : Nat) : Int)) := fun n => shr_lit n 32 32 rfl (by omega)
 refine AC.enter [] [] Tryz.func126 rfl (by decide) (by decide) (Nat.le_of_ble_eq_true rfl) (by kernel_rfl) ?_; refine zev ?_
 refine run ?_
 refine iteP_mk (fun h1 => ?_) (fun h1 => ?_)
 ·have l32 : 4294967296 ≤ n := by have := of_decide_eq_true h1; omega
  have e32 := blen_shift (n := n) (s := 32) l32
  have m32 : n / 2 ^ 32 < 4294967296 := by omega
  refine runf (an @s32 (an @s16 @s8)) ?_
  generalize n / 2 ^ 32 = x at *
  refine iteP_mk (fun h1 => ?_) (fun h1 => ?_)
  ·have l16 : 65536 ≤ x := by have := of_decide_eq_true h1; omega
   have e16 := blen_shift (n := x) (s := 16) l16
   have m16 : x / 2 ^ 16 < 65536 := by omega
   refine runf (an @s32 (an @s16 @s8)) ?_
   generalize x / 2 ^ 16 = y at *
   refine iteP_mk (fun h1 => ?_) (fun h1 => ?_)
   ·have l8 : 256 ≤ y := by have := of_decide_eq_true h1; omega
    have e8 := blen_shift (n := y) (s := 8) l8
    have m8 : y / 2 ^ 8 < 256 := by omega
    refine runf (an @s32 (an @s16 @s8)) ?_
    generalize y / 2 ^ 8 = z at *
    have t1 := u8_small z (by omega)
    have t3 := blen_le z
    refine runf @t1 ?_
    refine bindV_mk _ (tab_idx _ (by decide +kernel) z (by omega)) ?_
    refine runf @Int.zero_add ?_
    refine ends_ret0 (by rfl) (by rfl) ?_
    exact congrArg (AV.it .i64) (by omega)
   ·have l8 : y < 256 := by have := of_decide_eq_false h1; omega
    refine run ?_
    have t1 := u8_small y (by omega)
    have t3 := blen_le y
    refine runf @t1 ?_
    refine bindV_mk _ (tab_idx _ (by decide +kernel) y (by omega)) ?_
    refine runf @Int.zero_add ?_
    refine ends_ret0 (by rfl) (by rfl) ?_
    exact congrArg (AV.it .i64) (by omega)
  ·have l16 : x < 65536 := by have := of_decide_eq_false h1; omega
   refine run ?_
   refine iteP_mk (fun h1 => ?_) (fun h1 => ?_)
   ·have l8 : 256 ≤ x := by have := of_decide_eq_true h1; omega
    have e8 := blen_shift (n := x) (s := 8) l8
    have m8 : x / 2 ^ 8 < 256 := by omega
    refine runf (an @s32 (an @s16 @s8)) ?_
    generalize x / 2 ^ 8 = z at *
    have t1 := u8_small z (by omega)
    have t3 := blen_le z
    refine runf @t1 ?_
    refine bindV_mk _ (tab_idx _ (by decide +kernel) z (by omega)) ?_
    refine runf @Int.zero_add ?_
    refine ends_ret0 (by rfl) (by rfl) ?_
    exact congrArg (AV.it .i64) (by omega)
   ·have l8 : x < 256 := by have := of_decide_eq_false h1; omega
    refine run ?_
    have t1 := u8_small x (by omega)
    have t3 := blen_le x
    refine runf @t1 ?_
    refine bindV_mk _ (tab_idx _ (by decide +kernel) x (by omega)) ?_
    refine runf @Int.zero_add ?_
    refine ends_ret0 (by rfl) (by rfl) ?_
    exact congrArg (AV.it .i64) (by omega)
 ·have l32 : n < 4294967296 := by have := of_decide_eq_false h1; omega
  refine run ?_
  refine iteP_mk (fun h1 => ?_) (fun h1 => ?_)
  ·have l16 : 65536 ≤ n := by have := of_decide_eq_true h1; omega
   have e16 := blen_shift (n := n) (s := 16) l16
   have m16 : n / 2 ^ 16 < 65536 := by omega
   refine runf (an @s32 (an @s16 @s8)) ?_
   generalize n / 2 ^ 16 = y at *
   refine iteP_mk (fun h1 => ?_) (fun h1 => ?_)
   ·have l8 : 256 ≤ y := by have := of_decide_eq_true h1; omega
    have e8 := blen_shift (n := y) (s := 8) l8
    have m8 : y / 2 ^ 8 < 256 := by omega
    refine runf (an @s32 (an @s16 @s8)) ?_
    generalize y / 2 ^ 8 = z at *
    have t1 := u8_small z (by omega)
    have t3 := blen_le z
    refine runf @t1 ?_
    refine bindV_mk _ (tab_idx _ (by decide +kernel) z (by omega)) ?_
    refine runf @Int.zero_add ?_
    refine ends_ret0 (by rfl) (by rfl) ?_
    exact congrArg (AV.it .i64) (by omega)
   ·have l8 : y < 256 := by have := of_decide_eq_false h1; omega
    refine run ?_
    have t1 := u8_small y (by omega)
    have t3 := blen_le y
    refine runf @t1 ?_
    refine bindV_mk _ (tab_idx _ (by decide +kernel) y (by omega)) ?_
    refine runf @Int.zero_add ?_
    refine ends_ret0 (by rfl) (by rfl) ?_
    exact congrArg (AV.it .i64) (by omega)
  ·have l16 : n < 65536 := by have := of_decide_eq_false h1; omega
   refine run ?_
   refine iteP_mk (fun h1 => ?_) (fun h1 => ?_)
   ·have l8 : 256 ≤ n := by have := of_decide_eq_true h1; omega
    have e8 := blen_shift (n := n) (s := 8) l8
    have m8 : n / 2 ^ 8 < 256 := by omega
    refine runf (an @s32 (an @s16 @s8)) ?_
    generalize n / 2 ^ 8 = z at *
    have t1 := u8_small z (by omega)
    have t3 := blen_le z
    refine runf @t1 ?_
    refine bindV_mk _ (tab_idx _ (by decide +kernel) z (by omega)) ?_
    refine runf @Int.zero_add ?_
    refine ends_ret0 (by rfl) (by rfl) ?_
    exact congrArg (AV.it .i64) (by omega)
   ·have l8 : n < 256 := by have := of_decide_eq_false h1; omega
    refine run ?_
    have t1 := u8_small n (by omega)
    have t3 := blen_le n
    refine runf @t1 ?_
    refine bindV_mk _ (tab_idx _ (by decide +kernel) n (by omega)) ?_
    refine runf @Int.zero_add ?_
    refine ends_ret0 (by rfl) (by rfl) ?_
    exact congrArg (AV.it .i64) (by omega)
end Go.Proofs.YtleljbiejeofgaaGreatDoor.Pe
end
section
namespace Go.Proofs.YtleljbiejeofgaaGreatDoor
open Go.RowKit Sm
set_option maxRecDepth 100000
theorem ret_int {k : IntKind} {a b : Int} (h : a = b) : Ending.returned (.int k a) = .returned (.int k b) := by rw [h]
theorem val32 {a b : BitVec 32} (h : a = b) : w32 a = w32 b := by rw [h]
theorem ret32 {a b : BitVec 32} (h : a = b) : Ending.returned (w32 a) = .returned (w32 b) := by rw [h]
set_option maxHeartbeats 400000 in
theorem crc_any (s : ByteArray) (w : World) (hs : s.size ≤ 9223372036854775807) :
  Calls Tryz.prog 189 #[.string s] w fun e w' => e = .returned (w32 (crc s.data.toList)) ∧ w = w' := by
 go_enter Tryz.func189, Tryz.ntmps189
 go_wp2
 go_loop [3, 4, 5, 8, 17] (fun r _ _ i _ => ∃ k : Nat, k ≤ s.size ∧ i = .int .i64 k ∧ r = w32 (creg (s.data.toList.take k))) (fun _ _ _ i _ => s.size - (intOf i).toNat)
 case atStart => exact ⟨0, Nat.zero_le _, rfl, rfl⟩
 case round =>
  obtain ⟨k, hk, rfl, rfl⟩ := hrel
  generalize hr : creg (s.data.toList.take k) = r0
  have Hr := Veil.mk hr; clear hr
  by_cases hlt : k < s.size
  ·go_wp2
   go_loop [3, 5, 17] (fun r _ i => ∃ j : Nat, j ≤ 8 ∧ i = .int .i64 j ∧ r = w32 (csteps j (r0 ^^^ bw s[k]))) (fun _ _ i => 8 - (intOf i).toNat)
   case atStart => exact ⟨0, by omega, rfl, rfl⟩
   case round =>
    obtain ⟨j, hj, rfl, rfl⟩ := hrel
    by_cases hlt2 : j < 8
    ·go_wp2
     all_goals
      go_round
      case rel => exact ⟨j + 1, by omega, by go_num, val32 (by first | exact cstep_odd _ ‹_› | exact cstep_even _ ‹_›)⟩
      case measure => simp [intOf]; omega
    ·obtain rfl : j = 8 := by omega
     go_wp2
     go_round
     case rel => exact ⟨k + 1, by omega, by go_num, val32 (by rw [take_snoc s k hlt, creg_snoc, Hr.out]; rfl)⟩
     case measure => simp [intOf]; omega
  ·have e := take_all s k hlt
   have E := Veil.mk e; clear e
   go_wp2
   go_ret
   exact ⟨ret32 (by rw [← Hr.out, E.out, crc]), rfl⟩
def rowU (w : World) (b : Nat) (t : TypeId) (n : Nat) (ws : List (BitVec 32)) : Prop := w.rowIs b t n (fun j => w32 (ws.getD j 0))
theorem rowU_push {w : World} {b : Nat} {t : TypeId} {n : Nat} {ws : List (BitVec 32)} (h : rowU w b t n ws) (x : BitVec 32) : rowU (w.setCell ⟨b, ws.length, none⟩ (w32 x)) b t n (ws ++ [x]) := by
 refine World.rowIs.congr (World.rowIs.set h ws.length (w32 x)) fun i _ => ?_
 rw [getD_app]
 split <;> rfl
theorem rowU_zero {w : World} {b : Nat} (n : Nat) (cs : Array Value) (t : TypeId) (hb : b = w.heap.size) (h : cs = (List.replicate n (Value.int .u32 0)).toArray) : rowU (w.alloc (.cells cs t)) b t n [] := by
 subst h hb
 have := World.rowIs_alloc w (List.replicate n (Value.int .u32 0)).toArray t (fun _ => w32 0) (fun i hi => by
  simp at hi
  simp [List.getElem?_replicate, hi]
  rfl)
 simpa [rowU] using this
theorem turn_any (x : BitVec 32) (n : Int) (w : World) (h0 : 0 < n) (h : n < 32) :
  Calls Tryz.prog 178 #[w32 x, .int .i64 n] w fun e w' => e = .returned (w32 (rot x n.toNat)) ∧ w = w' := by
 have e := rot_eq x n h0 h
 have E := Veil.mk e; clear e
 go_enter Tryz.func178, Tryz.ntmps178
 go_wp2
 go_ret
 rw [← E.out]
 exact ⟨rfl, rfl⟩
theorem rowU_nil {w : World} {b : Nat} {t : TypeId} {n : Nat} (h : rowU w b t n []) : rowU w b t n (List.replicate n 0) :=
 World.rowIs.congr h (fun i hi => by simp [List.getElem?_replicate, hi])
theorem rowU_heap {w : World} {b : Nat} {t : TypeId} {n : Nat} {ws : List (BitVec 32)} (h : rowU w b t n ws) (hl : ws.length = n) : w.heap[b]? = some (.cells (ws.map w32).toArray t (0, 0)) := by
 obtain ⟨cs, hc, hs, he⟩ := h
 rw [hc]
 have : cs = (ws.map w32).toArray := by
  apply Array.ext
  ·simp [hs, hl]
  ·intro i h1 h2
   have := he i (by omega)
   rw [Array.getElem?_eq_getElem h1] at this
   injection this with this
   rw [this]
   simp at h2
   simp [List.getElem?_eq_getElem h2]
 rw [this]
theorem info64 : (Tryz.prog.info? 249).map (·.size) = some 64 := by kernel_rfl
theorem info8 : (Tryz.prog.info? 199).map (·.size) = some 8 := by kernel_rfl
set_option maxRecDepth 100000 in
set_option maxHeartbeats 4000000 in
theorem sched_any (s : ByteArray) (w : World) (hs : s.size = 64) :
  Calls Tryz.prog 177 #[.string s] w fun e w' => e = .returned (.agg ((sched s.data.toList).map w32).toArray) ∧ Below w.heap.size w w' := by
 have Hs := Veil.mk hs; clear hs
 go_enter Tryz.func177, Tryz.ntmps177
 go_wp2
 go_loopw [4, 5, 11] (fun _ _ i wr => ∃ k : Nat, k ≤ 16 ∧ i = .int .i64 k ∧ rowU wr w.heap.size 249 64 [] ∧ rowU wr (w.heap.size + 1) 249 64 (firstW s.data.toList k) ∧ Below w.heap.size w wr) (fun _ _ i _ => 16 - (intOf i).toNat)
 case atStart =>
  refine ⟨0, by omega, rfl, World.rowIs.alloc (rowU_zero 64 _ _ rfl rfl) _, ?_, ?_⟩
  ·exact rowU_zero 64 _ _ (by simp) rfl
  ·exact ((Below.refl _ _).alloc (Nat.le_refl _) _).alloc (by simp) _
 case round =>
  obtain ⟨k, hk, rfl, h0, h1, hb⟩ := hrel
  by_cases hlt : k < 16
  ·have hs := Hs.out
   have a1 : 4 * k + 4 ≤ s.size := by omega
   clear hs
   have H0 := Veil.mk h0; clear h0
   have H1 := Veil.mk h1
   have c1 := h1.cell (i := k) (by omega)
   have f1 := h1.frozen k
   clear h1
   go_wp2
   generalize hx : s.extract (4 * k) (4 * k + 4) = x
   have ht : 4 ≤ x.size := by subst hx; rw [ByteArray.size_extract]; omega
   have key : ∀ i (h' : i < x.size) (_ : i < 4), x[i] = s.data.toList.getD (4 * k + i) 0 := by
    subst hx; intro i h' h; exact extract_getD s _ _ i (by omega) a1 h'
   have Key := Veil.mk key
   clear key hx
   have i0 : 0 < x.size := by omega
   have i1 : (1 : Int) < x.size := by omega
   have i2 : (2 : Int) < x.size := by omega
   have i3 : (3 : Int) < x.size := by omega
   go_region
   go_wp2
   go_roundw
   case rel =>
    have e := rowU_push H1.out (word4 x[0] x[1] x[2] x[3])
    rw [firstW_length] at e
    refine ⟨k + 1, by omega, by go_num, World.rowIs.setOther H0.out (by simp) _, ?_, (hb.setCell (by simp) _).drew⟩
    rw [firstW_snoc, wordAt]
    rw [Key.out 0 (by omega) (by omega), Key.out 1 (by omega) (by omega), Key.out 2 (by omega) (by omega), Key.out 3 (by omega) (by omega)] at e ⊢
    exact e
   case measure => simp [intOf]; omega
  ·have hk16 : 16 ≤ k := by omega
   clear hlt
   go_wp2
   go_loopw [6, 7, 8] (fun i _ _ wr => ∃ m : Nat, 16 ≤ m ∧ m ≤ 64 ∧ i = .int .i64 m ∧ rowU wr w.heap.size 249 64 [] ∧ rowU wr (w.heap.size + 1) 249 64 (schedN s.data.toList (m - 16)) ∧ Below w.heap.size w wr) (fun i _ _ _ => 64 - (intOf i).toNat)
   case atStart =>
    obtain rfl : k = 16 := by omega
    exact ⟨16, by omega, by omega, rfl, h0, h1, hb⟩
   case round =>
    obtain ⟨m, hm0, hm, rfl, h0, h1, hb⟩ := hrel
    by_cases hlt : m < 64
    ·have H0 := Veil.mk h0; clear h0
     have H1 := Veil.mk h1
     have c15 := h1.cell (i := m - 15) (by omega)
     have c2 := h1.cell (i := m - 2) (by omega)
     have c7 := h1.cell (i := m - 7) (by omega)
     have c16 := h1.cell (i := m - 16) (by omega)
     have c0 := h1.cell (i := m) (by omega)
     have f0 := h1.frozen m
     clear h1
     go_wp2
     go_quiet (fail)
     go_wp2_with (go_at_call 178; refine (turn_any _ _ _ (by omega) (by omega)).mono ?_; rintro e w' ⟨rfl, rfl⟩)
     go_region
     go_wp2
     go_roundw
     case rel =>
      have e := rowU_push H1.out (nextW (schedN s.data.toList (m - 16)) m)
      rw [schedN_length, show 16 + (m - 16) = m from by omega] at e
      refine ⟨m + 1, by omega, by omega, by go_num, World.rowIs.setOther H0.out (by simp) _, ?_, (belowDrewN (hb.setCell (by simp) _) _)⟩
      rw [show m + 1 - 16 = m - 16 + 1 from by omega, schedN, show 16 + (m - 16) = m from by omega]
      exact e
     case measure => simp [intOf]; omega
    ·have hm64 : 64 ≤ m := by omega
     have e : sched s.data.toList = schedN s.data.toList (m - 16) := by rw [sched, show m - 16 = 48 from by omega]
     have E := Veil.mk e; clear e
     have hl : (schedN s.data.toList (m - 16)).length = 64 := by rw [schedN_length]; omega
     generalize hws : schedN s.data.toList (m - 16) = ws at h1 hl
     have Ews := Veil.mk hws; clear hws hlt
     have hr0 := rowU_heap (rowU_nil h0) (by simp)
     have hr1 := rowU_heap h1 hl
     have Hr1 := Veil.mk hr1
     have Hr0 := Veil.mk hr0
     have Hl := Veil.mk hl
     clear h0 h1 hr0 hr1 hl
     have Hc : Veil (∀ j u, (ws.map w32)[j]? = some u → (ws.map w32).toArray[0 + j]? = some u) := ⟨fun j u hu => by simpa using hu⟩
     have Hf : Veil ((ws.map w32).length = (List.map w32 (List.replicate 64 0)).toArray.size) := ⟨by simp [Hl.out]⟩
     have Ho : Veil (∀ u ∈ ws.map w32, u.oneCell' = true) := ⟨oneCell_map32 _⟩
     have Hi : Veil (some 64 = some (ws.map w32).length) := ⟨by rw [List.length_map, Hl.out]⟩
     go_wp2_with (first
      | (refine ld_row rfl _ (.tmp 3) rfl (w.heap.size + 1) 0 rfl Hr1.out Tryz.underlying249 rfl (ws.map w32) (info64.trans Hi.out) Hc.out ?_)
      | (refine st_all rfl _ (.tmp 2) (.tmp 85) rfl w.heap.size rfl (ws.map w32) rfl Hr0.out (info64.trans Hi.out) Hf.out Ho.out ?_))
     refine bodyPost_ret (results_cell_row rfl _ _ w.heap.size _ _ _ _ rfl (setRow_heap wr w.heap.size _ _ _ _ Hr0.out) Tryz.underlying249 rfl (info64.trans (by rw [Hi.out]; simp))) rfl ?_
     exact ⟨by rw [E.out, Ews.out], belowSetRow hb (Nat.le_refl _) _⟩
def Tabs (w : World) : Prop := (∀ i, i < 64 → w.cell? ⟨1, i, none⟩ = some (w32 (tabK.getD i 0))) ∧ (∀ i, i < 8 → w.cell? ⟨0, i, none⟩ = some (w32 (init8.list.getD i 0)))
theorem Tabs.keep {w w' : World} (h : Tabs w) (hk : ∀ b, b < w.heap.size → w'.heap[b]? = w.heap[b]?) : Tabs w' := by
 refine ⟨fun i hi => ?_, fun i hi => ?_⟩
 ·rw [World.cell?_of_block (hk _ (World.block_lt_of_cell? w _ (h.1 i hi)))]
  exact h.1 i hi
 ·rw [World.cell?_of_block (hk _ (World.block_lt_of_cell? w _ (h.2 i hi)))]
  exact h.2 i hi
theorem Tabs.below {w w' : World} (h : Tabs w) {B : Nat} (hb : Below B w w') (hB : w.heap.size ≤ B) : Tabs w' := h.keep fun b hlt => hb.block b (by omega)
theorem Tabs.drew {w : World} (h : Tabs w) : Tabs w.drew := h
theorem Tabs.alloc {w : World} (h : Tabs w) (o : Obj) : Tabs (w.alloc o) := h.keep fun b hb => heap_alloc_old w o hb
set_option maxRecDepth 100000 in
set_option maxHeartbeats 4000000 in
theorem mix_any (st : S8) (s : ByteArray) (w : World) (hs : s.size = 64) (hT : Tabs w) :
  Calls Tryz.prog 133 #[.agg st.cells.toArray, .string s] w fun e w' => e = .returned (.agg (mix8 st s.data.toList).cells.toArray) ∧ Below w.heap.size w w' := by
 have Hs := Veil.mk hs; clear hs
 have HT := Veil.mk hT; clear hT
 obtain ⟨va, vb, vc, vd, ve, vf, vg, vh⟩ := st
 simp only [S8.cells]
 go_enter Tryz.func133, Tryz.ntmps133
 go_wp2_with (first
  | (go_at_call 177; refine (sched_any s _ Hs.out).mono ?_; rintro e w1 ⟨rfl, hb1⟩)
  | (refine st_new _ rfl _ (.tmp 5) (.tmp 18) rfl rfl ((sched s.data.toList).map w32) rfl ?_ ?_ (oneCell_map32 _) ?_))
 ·exact info64.trans (by rw [List.length_map, sched_length])
 ·rw [List.length_map, sched_length]; rfl
 have hbs : Below w.heap.size w w1 := (((Below.refl _ _).alloc (Nat.le_refl _) _).alloc (by simp) _).trans (hb1.mono (by simp; omega))
 have hsz : w.heap.size + 2 ≤ w1.heap.size := by have := hb1.size; simp at this; omega
 have g0 : w1.heap[w.heap.size]? = some (.cells #[w32 va, w32 vb, w32 vc, w32 vd, w32 ve, w32 vf, w32 vg, w32 vh] 199 (0, 0)) :=
  (hb1.block _ (by simp; omega)).trans (heap_alloc2_old w _ _)
 have g1 : w1.heap[w.heap.size + 1]? = some (.cells #[.int .u32 0, .int .u32 0, .int .u32 0, .int .u32 0, .int .u32 0, .int .u32 0, .int .u32 0, .int .u32 0] 199 (0, 0)) :=
  (hb1.block _ (by simp)).trans (heap_alloc2_new w _ _)
 have hT1 : Tabs w1 := HT.out.below hbs (Nat.le_refl _)
 clear hb1
 have k0 : (w1.alloc (.cells ((sched s.data.toList).map w32).toArray 249)).heap[w.heap.size]? = _ := (heap_alloc_old w1 _ (by omega)).trans g0
 have k1 : (w1.alloc (.cells ((sched s.data.toList).map w32).toArray 249)).heap[w.heap.size + 1]? = _ := (heap_alloc_old w1 _ (by omega)).trans g1
 have k2 := heap_alloc_new w1 (.cells ((sched s.data.toList).map w32).toArray 249)
 have kT := hT1.alloc (.cells ((sched s.data.toList).map w32).toArray 249)
 have kb := hbs.alloc hbs.size (.cells ((sched s.data.toList).map w32).toArray 249)
 clear g0 g1 hT1 hbs
 generalize w1.alloc (.cells ((sched s.data.toList).map w32).toArray 249) = w2 at k0 k1 k2 kT kb ⊢
 generalize hW : w1.heap.size = bw at k2 hsz ⊢
 clear hW
 have x0 := cell_of_row w2 w.heap.size 0 _ _ _ k0
 have x1 := cell_of_row w2 w.heap.size 1 _ _ _ k0
 have x2 := cell_of_row w2 w.heap.size 2 _ _ _ k0
 have x3 := cell_of_row w2 w.heap.size 3 _ _ _ k0
 have x4 := cell_of_row w2 w.heap.size 4 _ _ _ k0
 have x5 := cell_of_row w2 w.heap.size 5 _ _ _ k0
 have x6 := cell_of_row w2 w.heap.size 6 _ _ _ k0
 have x7 := cell_of_row w2 w.heap.size 7 _ _ _ k0
 have K0 := Veil.mk k0
 have K1 := Veil.mk k1
 have K2 := Veil.mk k2
 have KT := Veil.mk kT
 have Kb := Veil.mk kb
 clear k0 k1 k2 kT kb
 go_wp2
 go_quiet (fail)
 go_wp2
 go_quiet (fail)
 clear x0 x1 x2 x3 x4 x5 x6 x7
 go_wp2
 go_loopw [6, 7, 8, 9, 10, 11, 12, 13, 14, 15, 16, 35] (fun a b c d e f g h _ _ _ i wr => ∃ n r : Nat, n ≤ 64 ∧ i = .int .i64 n ∧ wr = w2.drewN r ∧ ∃ st : S8, st = rounds8 s.data.toList ⟨va, vb, vc, vd, ve, vf, vg, vh⟩ n ∧ a = w32 st.a ∧ b = w32 st.b ∧ c = w32 st.c ∧ d = w32 st.d ∧ e = w32 st.e ∧ f = w32 st.f ∧ g = w32 st.g ∧ h = w32 st.h) (fun _ _ _ _ _ _ _ _ _ _ _ i _ => 64 - (intOf i).toNat)
 case atStart => exact ⟨0, _, by omega, rfl, World.drewN_drewN _ _ _, _, rfl, rfl, rfl, rfl, rfl, rfl, rfl, rfl, rfl⟩
 case round =>
  obtain ⟨n, r, hn, rfl, rfl, ⟨sa, sb, sc, sd, se, sf, sg, sh⟩, hst, rfl, rfl, rfl, rfl, rfl, rfl, rfl, rfl⟩ := hrel
  have Hst := Veil.mk hst; clear hst
  by_cases hlt : n < 64
  ·have cK : (w2.drewN r).cell? ⟨1, n, none⟩ = some (w32 (tabK.getD n 0)) := KT.out.1 n hlt
   have cW : (w2.drewN r).cell? ⟨bw, n, none⟩ = some (w32 ((sched s.data.toList).getD n 0)) := by
    show w2.cell? _ = _
    rw [cell_of_row w2 bw n _ _ _ K2.out]
    simp [List.getD_eq_getElem?_getD, List.getElem?_eq_getElem (show n < (sched s.data.toList).length from by rw [sched_length]; exact hlt)]
   generalize hk : tabK.getD n 0 = kn at cK
   generalize hx : (sched s.data.toList).getD n 0 = xn at cW
   have Hk := Veil.mk hk; clear hk
   have Hx := Veil.mk hx; clear hx
   generalize hwr : w2.drewN r = wr at cK cW ⊢
   have Hwr := Veil.mk hwr; clear hwr
   go_wp2
   go_quiet ((go_at_call 178; exact Calls.quiet_of_same ((turn_any _ _ _ (by omega) (by omega)).mono fun _ _ h => ⟨h.1, h.2.symm⟩)))
   go_wp2_with (go_at_call 178; refine (turn_any _ _ _ (by omega) (by omega)).mono ?_; rintro e w' ⟨rfl, rfl⟩)
   go_roundw
   case rel =>
    refine ⟨n + 1, _, by omega, by go_num, by rw [← Hwr.out]; exact World.drewN_drewN _ _ _, round8 kn xn ⟨sa, sb, sc, sd, se, sf, sg, sh⟩, ?_, ?_⟩
    ·rw [rounds8, ← Hst.out, Hk.out, Hx.out]
    ·exact ⟨rfl, rfl, rfl, rfl, rfl, rfl, rfl, rfl⟩
   case measure => simp [intOf]; omega
  ·have hn64 : 64 ≤ n := by omega
   have hm : mix8 ⟨va, vb, vc, vd, ve, vf, vg, vh⟩ s.data.toList = S8.add ⟨va, vb, vc, vd, ve, vf, vg, vh⟩ ⟨sa, sb, sc, sd, se, sf, sg, sh⟩ := by
    obtain rfl : n = 64 := by omega
    rw [mix8, ← Hst.out]
   have Hm := Veil.mk hm; clear hm hlt
   have k0 : (w2.drewN r).heap[w.heap.size]? = _ := K0.out
   have k1 : (w2.drewN r).heap[w.heap.size + 1]? = _ := K1.out
   have kb := belowDrewN Kb.out r
   generalize w2.drewN r = wr at k0 k1 kb ⊢
   have x0 := cell_of_row wr w.heap.size 0 _ _ _ k0
   have x1 := cell_of_row wr w.heap.size 1 _ _ _ k0
   have x2 := cell_of_row wr w.heap.size 2 _ _ _ k0
   have x3 := cell_of_row wr w.heap.size 3 _ _ _ k0
   have x4 := cell_of_row wr w.heap.size 4 _ _ _ k0
   have x5 := cell_of_row wr w.heap.size 5 _ _ _ k0
   have x6 := cell_of_row wr w.heap.size 6 _ _ _ k0
   have x7 := cell_of_row wr w.heap.size 7 _ _ _ k0
   have K1 := Veil.mk k1
   have Kb := Veil.mk kb
   clear k0 k1 kb
   have Hi : Veil (some 8 = some [w32 (va + sa), w32 (vb + sb), w32 (vc + sc), w32 (vd + sd), w32 (ve + se), w32 (vf + sf), w32 (vg + sg), w32 (vh + sh)].length) := ⟨rfl⟩
   go_wp2_with (refine st_all rfl _ (.tmp 4) (.tmp 130) rfl (w.heap.size + 1) rfl [w32 (va + sa), w32 (vb + sb), w32 (vc + sc), w32 (vd + sd), w32 (ve + se), w32 (vf + sf), w32 (vg + sg), w32 (vh + sh)] rfl K1.out (info8.trans Hi.out) rfl (by simp [Value.oneCell', w32]) ?_)
   refine bodyPost_ret (results_cell_row rfl _ _ (w.heap.size + 1) _ _ _ _ rfl (setRow_heap wr (w.heap.size + 1) _ _ _ _ K1.out) Tryz.underlying199 rfl (info8.trans Hi.out)) rfl ?_
   exact ⟨by rw [Hm.out]; rfl, belowSetRow Kb.out (by omega) _⟩
theorem elem8 : ElemOk Tryz.prog 71 5 1 1 := ElemOk.mk' (z := .int .u8 0) Tryz.underlying71 (by kernel_rfl) rfl (by omega)
def lenOf : Value → Nat | .slice _ n _ => n | _ => 0
set_option maxHeartbeats 1000000 in
theorem ending_any (s : ByteArray) (n : Int) (w : World) (hs : s.size ≤ 64) :
  Calls Tryz.prog 134 #[.string s, .int .i64 n] w fun e w' => e = .returned (.string ⟨(ending s.data.toList n).toArray⟩) ∧ Below w.heap.size w w' := by
 have hm : s.size ≤ maxLen := by unfold maxLen; omega
 go_enter Tryz.func134, Tryz.ntmps134
 go_wp2_with (first
  | (refine bytes_arm w rfl _ _ (.tmp 8) rfl 5 s rfl Tryz.underlying9 Tryz.underlying71 Tryz.underlying5 hm (base := w.heap.size) (Nat.le_refl _) ?_; intro v0 w0 own0 gr0 hx; clear hx)
  | (at_builtin; refine ap_lit w0 rfl _ _ _ rfl elem8 [.int .u8 128] own0 rfl rfl ?_ ?_ ?_ ?_ ?_))
 ·exact one1 rfl
 ·simp; omega
 ·simp; omega
 ·exact gr0.size
 intro v1 w1 own1 gr1
 have hb1 : Below w.heap.size w w1 := belowOwn ((Below.refl _ _).grown gr0 (Nat.le_refl _) (fun k hk => by cases hk)) gr1 own0 (Nat.le_refl _) gr0.size
 have own1' : Own w1 w.heap.size 5 1 v1 ((endZ s.data.toList 0).map w8) := by
  rw [show ((endZ s.data.toList 0).map w8) = s.data.toList.map w8 ++ [.int .u8 128] from by simp [endZ]; rfl]
  exact own1
 clear own0 gr0 gr1 own1
 have hl : s.data.toList.length = s.size := by simp
 generalize hs0 : s.data.toList = l at own1' hl ⊢
 have Hl := Veil.mk hl
 have Hs0 := Veil.mk hs0
 clear hl hs0
 go_wp2
 go_loopw [5] (fun v wr => ∃ (N z : Nat) (A : Option Addr) (c : Nat), v = .slice A N c ∧ Veil (N = l.length + 1 + z) ∧ z ≤ zerosN (l.length + 1) ∧ Own wr w.heap.size 5 1 (.slice A N c) ((endZ l z).map w8) ∧ Below w.heap.size w wr) (fun v _ => l.length + 1 + zerosN (l.length + 1) - lenOf v)
 case atStart =>
  obtain ⟨A, c, rfl⟩ := own1'.len1
  exact ⟨_, 0, A, c, rfl, ⟨by rw [List.length_map, endZ_length]⟩, Nat.zero_le _, own1', hb1⟩
 case round =>
  obtain ⟨N, z, A, c, rfl, HN, hz, hown, hb⟩ := hrel
  have hzl := zerosN_le (l.length + 1)
  have hNs : N ≤ 200 := by have := HN.out; have := Hl.out; omega
  have hmod : ((N : Int) % 64 != 56) = decide (z < zerosN (l.length + 1)) := by
   have h1 := zerosN_at (l.length + 1)
   have h2 := zerosN_before (l.length + 1) z
   rw [HN.out]
   by_cases hlt : z < zerosN (l.length + 1)
   ·have := h2 hlt
    simp only [hlt, decide_true, bne_iff_ne]
    omega
   ·obtain rfl : z = zerosN (l.length + 1) := by omega
    simp only [hlt, decide_false, bne_eq_false_iff_eq]
    omega
  have hle := hb.size
  by_cases hlt : z < zerosN (l.length + 1)
  ·have ht : ((N : Int) % 64 != 56) = true := by rw [hmod]; simpa using hlt
   clear hmod
   go_wp2_with (at_builtin; refine ap_lit wr rfl _ _ _ rfl elem8 [.int .u8 0] hown rfl rfl ?_ ?_ ?_ hle ?_; rotate_left 3; intro v' w' own' gr')
   rotate_left 1
   ·exact one1 rfl
   ·rw [List.length_map, endZ_length, ← HN.out]; simp; omega
   ·rw [List.length_map, endZ_length, ← HN.out]; simp; omega
   have hb' := belowOwn hb gr' hown (Nat.le_refl _) hle
   have own2 : Own w' w.heap.size 5 1 v' ((endZ l (z + 1)).map w8) := by rw [endZ_snoc, List.map_append]; exact own'
   clear own' gr' hown hb
   go_wp2
   go_roundw
   obtain ⟨A', c', rfl⟩ := own2.len1
   case rel => exact ⟨_, z + 1, A', c', rfl, ⟨by rw [List.length_map, endZ_length]⟩, by omega, own2, hb'⟩
   case measure =>
    obtain ⟨A', c', rfl⟩ := own2.len1
    simp only [lenOf, List.length_map, endZ_length]
    have := HN.out
    omega
  ·have ht : ((N : Int) % 64 != 56) = false := by rw [hmod]; simpa using hlt
   obtain rfl : z = zerosN (l.length + 1) := by omega
   clear hmod
   go_wp2
   go_loopw [5, 7] (fun v i wr => ∃ (M j : Nat) (A : Option Addr) (c : Nat), v = .slice A M c ∧ j ≤ 8 ∧ i = .int .i64 (56 - 8 * (j : Int)) ∧ Own wr w.heap.size 5 1 (.slice A M c) ((endZ l (zerosN (l.length + 1)) ++ beN (BitVec.ofInt 64 n * 8#64) j).map w8) ∧ Below w.heap.size w wr) (fun _ i _ => (intOf i + 8).toNat)
   case atStart => exact ⟨N, 0, A, c, rfl, by omega, rfl, by simpa [beN] using hown, hb⟩
   case round =>
    obtain ⟨M, j, A', c', rfl, hj, rfl, hown, hb⟩ := hrel
    have hle := hb.size
    have hlen : (endZ l (zerosN (l.length + 1)) ++ beN (BitVec.ofInt 64 n * 8#64) j).length ≤ 200 := by
     rw [List.length_append, endZ_length]
     have : (beN (BitVec.ofInt 64 n * 8#64) j).length ≤ 8 := by simp [beN, be8]; omega
     have := Hl.out
     omega
    by_cases hlt : j < 8
    ·have hge : (0 : Int) ≤ 56 - 8 * (j : Int) := by omega
     go_wp2_with (at_builtin; refine ap_lit wr rfl _ _ _ rfl elem8 [_] hown rfl rfl ?_ ?_ ?_ hle ?_; rotate_left 3; intro v' w' own' gr')
     rotate_left 1
     ·exact one1 rfl
     ·rw [List.length_map]; simp only [List.length_singleton]; omega
     ·rw [List.length_map]; simp only [List.length_singleton]; omega
     have hb' := belowOwn hb gr' hown (Nat.le_refl _) hle
     have own2 : Own w' w.heap.size 5 1 v' ((endZ l (zerosN (l.length + 1)) ++ beN (BitVec.ofInt 64 n * 8#64) (j + 1)).map w8) := by
      rw [beN_snoc _ _ hlt, ← List.append_assoc, List.map_append]; exact own'
     clear own' gr' hown hb
     obtain ⟨A2, c2, rfl⟩ := own2.len1
     go_wp2
     go_roundw
     case rel => exact ⟨_, j + 1, A2, c2, rfl, by omega, by go_num, own2, hb'⟩
     case measure => simp [intOf]; omega
    ·obtain rfl : j = 8 := by omega
     have hc := str_run (P := Tryz.prog) wr 71 9 5 Tryz.underlying71 Tryz.underlying5 Tryz.underlying9 hown.rd
     go_wp2
     go_ret
     exact ⟨by rw [Hs0.out]; rfl, hb⟩
theorem idx8 (st : S8) (j : Nat) (hj : j < 8) : ∀ W : World, (Instr.index 199 (.agg st.cells.toArray) (.int .i64 (j : Int))).run Tryz.prog W = .ok (w32 (st.list.getD j 0)) W := by
 intro W
 rcases j with _ | _ | _ | _ | _ | _ | _ | _ | j
 all_goals first | omega | kernel_rfl
theorem keep1 {w w1 : World} {g : Nat} {o : Obj} (hb : Below w.drew.heap.size w.drew w1) (hlt : g < w.heap.size) (h : w.heap[g]? = some o) : w1.heap[g]? = some o := (hb.block g hlt).trans h
set_option maxRecDepth 100000 in
set_option maxHeartbeats 400000 in
theorem sha_any (s : ByteArray) (w : World) (hs : s.size ≤ 9223372036854775807) (hT : Tabs w) :
  Calls Tryz.prog 82 #[.string s] w fun e w' => e = .returned (.string ⟨(sha s.data.toList).toArray⟩) ∧ Below w.heap.size w w' := by
 have HT := Veil.mk hT
 have HI : Veil (∀ j u, init8.cells[j]? = some u → w.cell? ⟨0, 0 + j, none⟩ = some u) := ⟨fun j u hu => by
  rw [Nat.zero_add]
  have hj : j < 8 := (List.getElem?_eq_some_iff.1 hu).1
  rw [hT.2 j hj]
  rw [← hu]
  rcases j with _ | _ | _ | _ | _ | _ | _ | _ | j
  all_goals first | omega | rfl⟩
 clear hT
 have Hc8 : Veil (∀ (st : S8) j u, st.cells[j]? = some u → st.cells.toArray[0 + j]? = some u) := ⟨fun st j u hu => by simpa using hu⟩
 have Ho8 : Veil (∀ (st : S8), ∀ u ∈ st.cells, u.oneCell' = true) := ⟨fun st u hu => by
  simp only [S8.cells, List.mem_cons, List.not_mem_nil, or_false] at hu
  rcases hu with rfl | rfl | rfl | rfl | rfl | rfl | rfl | rfl <;> rfl⟩
 go_enter Tryz.func82, Tryz.ntmps82
 go_wp2_with (first
  | (refine ld_cells rfl _ (.global 0) rfl 0 0 rfl Tryz.underlying199 rfl init8.cells info8 HI.out ?_)
  | (refine st_new _ rfl _ (.tmp 3) (.tmp 8) rfl rfl init8.cells rfl info8 rfl (Ho8.out _) ?_))
 have k0 := heap_alloc_new w (.cells init8.cells.toArray 199)
 have b0 := (Below.refl w.heap.size w).alloc (Nat.le_refl _) (.cells init8.cells.toArray 199)
 generalize w.alloc (.cells init8.cells.toArray 199) = w2 at k0 b0 ⊢
 go_loopw [4] (fun r wr => ∃ (n : Nat) (x : ByteArray), r = .string x ∧ x.size ≤ 9223372036854775807 ∧ Veil (x.data.toList = s.data.toList.drop (64 * n)) ∧ 64 * n ≤ s.size ∧ wr.heap[w.heap.size]? = some (.cells (absorb s.data.toList init8 n).cells.toArray 199 (0, 0)) ∧ Below w.heap.size w wr) (fun r _ => match r with | .string x => x.size | _ => 0)
 case atStart => exact ⟨0, s, rfl, hs, ⟨by simp⟩, by omega, k0, b0⟩
 case round =>
  obtain ⟨n, x, rfl, hx, Hx, hn, k, hb⟩ := hrel
  have hxl : x.size = s.size - 64 * n := by have := congrArg List.length Hx.out; simpa using this
  have Hxl := Veil.mk hxl; clear hxl
  have HTr := Veil.mk (HT.out.below hb (Nat.le_refl _))
  have K := Veil.mk k; clear k
  have Hb := Veil.mk hb; clear hb
  by_cases hlt : 64 ≤ x.size
  ·go_wp2
   have hgl := (Array.getElem?_eq_some_iff.1 K.out).1
   refine wp_region_still_tail 3 (by kernel_rfl) (by kernel_rfl) ?_
   simp only [List.take_succ_cons, List.take_zero, List.drop_succ_cons, List.drop_zero]
   refine still_ld_row rfl _ (.tmp 3) rfl w.heap.size 0 rfl K.out Tryz.underlying199 rfl (absorb s.data.toList init8 n).cells (info8.trans (congrArg some (cells_length _).symm)) (Hc8.out _) ?_
   repeat still_step
   refine wpStill_nil ?_
   change wpList _ _ _ _ _ wr.drew
   go_wp2_with (first
    | (go_at_call 133; refine (mix_any (absorb s.data.toList init8 n) _ _ (size64 x hlt) HTr.out.drew).mono ?_; rintro e w1 ⟨rfl, hb1⟩; generalize hs2 : mix8 (absorb s.data.toList init8 n) (x.extract 0 64).data.toList = st2; have Hs2 := Veil.mk hs2; clear hs2; have hk1 := Veil.mk (keep1 hb1 hgl K.out); have Hb1 := Veil.mk hb1; clear hb1)
    | (refine st_all rfl _ (.tmp 3) (.tmp 16) rfl w.heap.size rfl st2.cells rfl hk1.out (info8.trans (congrArg some (cells_length st2).symm)) (cells_fit st2 _) (Ho8.out _) ?_))
   have hk := Veil.mk (setRow_heap w1 w.heap.size _ st2.cells.toArray _ _ hk1.out)
   have hbe := Veil.mk (belowSetRow (Hb.out.drew.trans (Hb1.out.mono Hb.out.size)) (Nat.le_refl _) st2.cells.toArray)
   generalize w1.setRow w.heap.size st2.cells.toArray = w3 at hk hbe ⊢
   go_roundw
   case rel =>
    have hx64 := drop64 x x.size (Nat.le_refl _)
    refine ⟨n + 1, _, rfl, ?_, ⟨?_⟩, ?_, ?_, hbe.out⟩
    ·rw [ByteArray.size_extract]; omega
    ·rw [hx64, Hx.out, List.drop_drop]; congr 1
    ·have := Hxl.out; omega
    ·rw [absorb]
     rw [← Hx.out, ← take64, Hs2.out]
     exact hk.out
   case measure => simp only [ByteArray.size_extract]; omega
  ·have hnq : s.size / 64 = n := by have := Hxl.out; omega
   have Hnq := Veil.mk hnq; clear hnq
   generalize hst : absorb s.data.toList init8 n = st1
   have Hst := Veil.mk hst; clear hst
   go_wp2_with (go_at_call 134; refine (ending_any x _ _ (by omega)).mono ?_; rintro e w1 ⟨rfl, hb1⟩)
   have hblk := ending_blocks x.data.toList s.size
   have htl := ending_length x.data.toList s.size
   generalize hT : Sm.ending x.data.toList s.size = T at hblk htl ⊢
   have HTl := Veil.mk hT; clear hT
   have hk1 := Veil.mk ((hb1.block _ ((Array.getElem?_eq_some_iff.1 K.out).1)).trans K.out)
   have hb1' := Veil.mk (Hb.out.trans (hb1.mono Hb.out.size))
   have hTs : T.length ≤ 300 := by
    have := zerosN_le (x.data.toList.length + 1)
    have : x.data.toList.length = x.size := by simp
    omega
   clear hb1 htl
   have Hblk := Veil.mk hblk; clear hblk
   go_loopw [4] (fun r wr => ∃ (n : Nat) (x : ByteArray), r = .string x ∧ x.size ≤ 300 ∧ Veil (x.data.toList = T.drop (64 * n)) ∧ 64 * n ≤ T.length ∧ Veil (wr.heap[w.heap.size]? = some (.cells (absorb T st1 n).cells.toArray 199 (0, 0))) ∧ Veil (Below w.heap.size w wr)) (fun r _ => match r with | .string x => x.size | _ => 0)
   case atStart => exact ⟨0, _, rfl, by simpa [ByteArray.size] using hTs, ⟨by simp⟩, by omega, ⟨by rw [absorb, ← Hst.out]; exact hk1.out⟩, hb1'⟩
   case round =>
    obtain ⟨m, y, rfl, hy, Hy, hm, K, Hb⟩ := hrel
    have hyl : y.size = T.length - 64 * m := by have := congrArg List.length Hy.out; simpa using this
    have Hyl := Veil.mk hyl; clear hyl
    have HTr := Veil.mk (HT.out.below Hb.out (Nat.le_refl _))
    by_cases hlt : 0 < y.size
    ·have h64 : 64 ≤ y.size := by have := Hyl.out; have := Hblk.out; omega
     have hem := nonempty_of hlt
     have h64i : (64 : Int) ≤ y.size := by omega
     have hgl := (Array.getElem?_eq_some_iff.1 K.out).1
     go_wp2
     refine wp_region_still_tail 3 (by kernel_rfl) (by kernel_rfl) ?_
     simp only [List.take_succ_cons, List.take_zero, List.drop_succ_cons, List.drop_zero]
     refine still_ld_row rfl _ (.tmp 3) rfl w.heap.size 0 rfl K.out Tryz.underlying199 rfl (absorb T st1 m).cells (info8.trans (congrArg some (cells_length _).symm)) (Hc8.out _) ?_
     repeat still_step
     refine wpStill_nil ?_
     change wpList _ _ _ _ _ wr.drew
     go_wp2_with (first
      | (go_at_call 133; refine (mix_any (absorb T st1 m) _ _ (size64 y h64) HTr.out.drew).mono ?_; rintro e w1 ⟨rfl, hb1⟩; generalize hs2 : mix8 (absorb T st1 m) (y.extract 0 64).data.toList = st2; have Hs2 := Veil.mk hs2; clear hs2; have hk1 := Veil.mk (keep1 hb1 hgl K.out); have Hb1 := Veil.mk hb1; clear hb1)
      | (refine st_all rfl _ (.tmp 3) (.tmp 30) rfl w.heap.size rfl st2.cells rfl hk1.out (info8.trans (congrArg some (cells_length st2).symm)) (cells_fit st2 _) (Ho8.out _) ?_))
     have hk := Veil.mk (setRow_heap w1 w.heap.size _ st2.cells.toArray _ _ hk1.out)
     have hbe := Veil.mk (belowSetRow (Hb.out.drew.trans (Hb1.out.mono Hb.out.size)) (Nat.le_refl _) st2.cells.toArray)
     generalize w1.setRow w.heap.size st2.cells.toArray = w3 at hk hbe ⊢
     go_roundw
     case rel =>
      have hx64 := drop64 y y.size (Nat.le_refl _)
      refine ⟨m + 1, _, rfl, ?_, ⟨?_⟩, ?_, ⟨?_⟩, hbe⟩
      ·rw [ByteArray.size_extract]; omega
      ·rw [hx64, Hy.out, List.drop_drop]; congr 1
      ·have := Hyl.out; omega
      ·rw [absorb]
       rw [← Hy.out, ← take64, Hs2.out]
       exact hk.out
     case measure => simp only [ByteArray.size_extract]; omega
    ·have hem := empty_of hlt
     have hmq : T.length / 64 = m := by have := Hyl.out; omega
     have hfin : shaState s.data.toList = absorb T st1 m := by
      have hsl : s.data.toList.length = s.size := by simp
      rw [shaState, hsl, Hnq.out, Hst.out, ← hmq, ← HTl.out, Hx.out]
     have Hfin := Veil.mk hfin; clear hfin hmq
     have hgl := (Array.getElem?_eq_some_iff.1 K.out).1
     generalize hst : absorb T st1 m = st at K Hfin
     clear hst
     have H32 : Veil ((32 : Nat) ≤ maxLen) := ⟨by unfold maxLen; omega⟩
     have hmk : ∀ W : World, (Instr.makeSlice 71 (.int .i64 0) (.int .i64 32)).run Tryz.prog W = .ok (.slice (some ⟨W.heap.size, 0, none⟩) 0 32) (W.alloc (.cells #[.int .u8 0, .int .u8 0, .int .u8 0, .int .u8 0, .int .u8 0, .int .u8 0, .int .u8 0, .int .u8 0, .int .u8 0, .int .u8 0, .int .u8 0, .int .u8 0, .int .u8 0, .int .u8 0, .int .u8 0, .int .u8 0, .int .u8 0, .int .u8 0, .int .u8 0, .int .u8 0, .int .u8 0, .int .u8 0, .int .u8 0, .int .u8 0, .int .u8 0, .int .u8 0, .int .u8 0, .int .u8 0, .int .u8 0, .int .u8 0, .int .u8 0, .int .u8 0] 5)) := fun _ => by kernel_rfl
     go_wp2_with (refine ld_row rfl _ (.tmp 3) rfl w.heap.size 0 rfl ((heap_alloc_old _ _ hgl).trans K.out) Tryz.underlying199 rfl st.cells (info8.trans (congrArg some (cells_length _).symm)) (Hc8.out _) ?_)
     have own0 : Own (wr.alloc (.cells #[.int .u8 0, .int .u8 0, .int .u8 0, .int .u8 0, .int .u8 0, .int .u8 0, .int .u8 0, .int .u8 0, .int .u8 0, .int .u8 0, .int .u8 0, .int .u8 0, .int .u8 0, .int .u8 0, .int .u8 0, .int .u8 0, .int .u8 0, .int .u8 0, .int .u8 0, .int .u8 0, .int .u8 0, .int .u8 0, .int .u8 0, .int .u8 0, .int .u8 0, .int .u8 0, .int .u8 0, .int .u8 0, .int .u8 0, .int .u8 0, .int .u8 0, .int .u8 0] 5)) w.heap.size 5 1 (.slice (some ⟨wr.heap.size, 0, none⟩) 0 32) [] := Own.made Hb.out.size H32.out rfl
     have hb3 := Hb.out.alloc Hb.out.size (.cells #[.int .u8 0, .int .u8 0, .int .u8 0, .int .u8 0, .int .u8 0, .int .u8 0, .int .u8 0, .int .u8 0, .int .u8 0, .int .u8 0, .int .u8 0, .int .u8 0, .int .u8 0, .int .u8 0, .int .u8 0, .int .u8 0, .int .u8 0, .int .u8 0, .int .u8 0, .int .u8 0, .int .u8 0, .int .u8 0, .int .u8 0, .int .u8 0, .int .u8 0, .int .u8 0, .int .u8 0, .int .u8 0, .int .u8 0, .int .u8 0, .int .u8 0, .int .u8 0] 5)
     go_loopw [5, 7, 33] (fun v _ i wx => ∃ j : Nat, j ≤ 8 ∧ i = .int .i64 j ∧ Own wx w.heap.size 5 1 v (((st.list.take j).flatMap be4).map w8) ∧ Below w.heap.size w wx) (fun _ _ i _ => 8 - (intOf i).toNat)
     case atStart => exact ⟨0, by omega, rfl, own0, hb3⟩
     case round =>
      obtain ⟨j, hj, rfl, hown, hbx⟩ := hrel
      have hle := hbx.size
      by_cases hlt : j < 8
      ·have hi := idx8 st j hlt
       have hlen : ((st.list.take j).flatMap be4).length ≤ 32 := by
        rcases j with _ | _ | _ | _ | _ | _ | _ | _ | j
        all_goals first | (simp [S8.list, be4]; done) | omega
       generalize hxj : st.list.getD j 0 = xj at hi
       have Hxj := Veil.mk hxj; clear hxj
       have Hlen := Veil.mk hlen; clear hlen
       go_wp2_with (at_builtin; refine ap_lit wr rfl _ _ _ rfl elem8 [_, _, _, _] hown rfl rfl ?_ ?_ ?_ hle ?_; rotate_left 3; intro v' w' own' gr')
       rotate_left 1
       ·exact oneCell_map8 (be4 xj)
       ·rw [List.length_map]; have := Hlen.out; simp only [List.length_cons, List.length_nil]; omega
       ·rw [List.length_map]; have := Hlen.out; simp only [List.length_cons, List.length_nil]; omega
       have own2 : Own w' w.heap.size 5 1 v' (((st.list.take (j + 1)).flatMap be4).map w8) := by
        rw [digest_snoc _ _ hlt, List.map_append, Hxj.out]; exact own'
       have hb' := belowOwn hbx gr' hown (Nat.le_refl _) hle
       clear own' gr' hown hbx
       go_wp2
       go_roundw
       case rel => exact ⟨j + 1, by omega, by go_num, own2, hb'⟩
       case measure => simp [intOf]; omega
      ·obtain rfl : j = 8 := by omega
       have hc := str_run (P := Tryz.prog) wr 71 9 5 Tryz.underlying71 Tryz.underlying5 Tryz.underlying9 hown.rd
       go_wp2
       go_ret
       exact ⟨by rw [sha, Hfin.out]; rfl, hbx⟩
theorem num_any (s : ByteArray) (w : World) (hs : s.size ≤ 9223372036854775807) :
  Calls Tryz.prog 123 #[.string s] w fun e w' => e = .returned (.int .i64 (num s.data.toList)) ∧ w = w' := by
 go_enter Tryz.func123, Tryz.ntmps123
 go_wp2
 go_loop [3, 4, 5] (fun r _ i => ∃ k : Nat, k ≤ 8 ∧ i = .int .i64 k ∧ r = w64 (BitVec.ofNat 64 (nat8 s.data.toList k))) (fun _ _ i => 8 - (intOf i).toNat)
 case atStart => exact ⟨0, by omega, rfl, rfl⟩
 case round =>
  obtain ⟨k, hk, rfl, rfl⟩ := hrel
  by_cases hlt : k < 8
  ·have st := num_step s.data.toList k hlt
   have sk := num_skip s.data.toList k hlt
   have ek : ∀ (h : k < s.size), s.data.toList.getD k 0 = s[k] := by
    intro h
    rw [List.getD_eq_getElem?_getD, List.getElem?_eq_getElem (by simpa using h)]; rfl
   generalize hn : BitVec.ofNat 64 (nat8 s.data.toList k) = n at st sk
   have Hn := Veil.mk hn
   have St := Veil.mk st
   have Sk := Veil.mk sk
   have Ek := Veil.mk ek
   clear hn st sk ek
   by_cases hl : k < s.size
   ·go_wp2
    go_round
    case rel => exact ⟨k + 1, by omega, by go_num, by rw [← St.out, Ek.out hl]⟩
    case measure => simp [intOf]; omega
   ·go_wp2
    go_round
    case rel => exact ⟨k + 1, by omega, by go_num, by rw [← Sk.out (by simp; omega)]⟩
    case measure => simp [intOf]; omega
  ·obtain rfl : k = 8 := by omega
   have e := num_end s.data.toList
   generalize hn : BitVec.ofNat 64 (nat8 s.data.toList 8) = n at e ⊢
   clear hn
   have E := Veil.mk e; clear e
   go_wp2
   go_ret
   exact ⟨ret_int E.out, rfl⟩
@[go_sem] theorem index_w8 {P : Program} (w : World) (t : TypeId) (s : ByteArray) (b : UInt8) (h : P.underlying t = some .string) :
  (Instr.index t (.string s) (w8 b)).run P w = if hi : b.toNat < s.size then .ok (w8 (s[b.toNat]'hi)) w else (boundsPanic .u8 b.toNat s.size .index).run P w := by
 show (Instr.index t (.string s) (.int .u8 _)).run P w = _
 rw [run_index_string w t s .u8 _ h]
 by_cases hi : b.toNat < s.size
 ·rw [dif_pos hi, dif_pos ⟨by omega, by omega⟩]; rfl
 ·rw [dif_neg hi, dif_neg (by omega)]
end Go.Proofs.YtleljbiejeofgaaGreatDoor
end
section
namespace Go.Proofs.YtleljbiejeofgaaGreatDoor.Pe
open Go Go.RowKit Sm
instance tabs : Tab := ⟨fun b i => if b = 1 ∧ i < 64 then some (w32 (tabK.getD i 0)) else if b = 0 ∧ i < 8 then some (w32 (init8.list.getD i 0)) else none⟩
theorem Tabs.of {w : World} {g : Gh} (h : TabOk w g) : Tabs w := by
 refine ⟨fun i hi => (h 1 i _ ?_).2, fun i hi => (h 0 i _ ?_).2⟩
 ·show (if _ then _ else _) = _
  rw [if_pos ⟨rfl, hi⟩]
 ·show (if _ then _ else _) = _
  rw [if_neg (fun e => absurd e.1 (by decide)), if_pos ⟨rfl, hi⟩]
theorem sha_c (l : List UInt8) (h : l.length ≤ 70368744177664) : AC Tryz.prog 82 [.st l] [] (.st (sha l)) [] := by
 refine AC.ofBelow (by kernel_rfl) fun w g cargs ht hargs => ?_
 rw [lrel_st hargs]
 refine (sha_any ⟨l.toArray⟩ w (by simp [ByteArray.size]; omega) (Tabs.of ht)).mono ?_
 rintro r w' ⟨rfl, hb⟩
 refine ⟨_, rfl, fun g' => ?_, hb⟩
 exact .st g' _
end Go.Proofs.YtleljbiejeofgaaGreatDoor.Pe
end
section
namespace Go.Proofs
open Go.Shelf
def Tryz.lays156_ren : Go.Shelf.Ren := ⟨fun | 156 => 124 | 165 => 165 | 166 => 166 | 169 => 167 | 240 => 203 | 241 => 204 | 276 => 228 | 277 => 229 | n => n, fun | 31 => 40 | 9 => 9 | 3 => 3 | 4 => 4 | 0 => 0 | 20 => 20 | 72 => 234 | 76 => 237 | 70 => 232 | 37 => 71 | 75 => 236 | 127 => 272 | 164 => 292 | 5 => 5 | 80 => 173 | n => n, fun | n => n⟩
theorem Tryz.lays156 : Go.Proofs.Lays.n156 Tryz.prog Tryz.lays156_ren := {
  mixed := by kernel_rfl
  f156 := Tryz.func124.trans (congrArg some (by kernel_rfl))
  f165 := Tryz.func165.trans (congrArg some (by kernel_rfl))
  f166 := Tryz.func166.trans (congrArg some (by kernel_rfl))
  f169 := Tryz.func167.trans (congrArg some (by kernel_rfl))
  f240 := Tryz.func203.trans (congrArg some (by kernel_rfl))
  f241 := Tryz.func204.trans (congrArg some (by kernel_rfl))
  f276 := Tryz.func228.trans (congrArg some (by kernel_rfl))
  f277 := Tryz.func229.trans (congrArg some (by kernel_rfl))
  t0 := Tryz.underlying0
  a0 := Tryz.isAgg0
  z0 := Tryz.sizeOf0
  v0 := Tryz.zeroValue0
  t3 := Tryz.underlying3
  a3 := Tryz.isAgg3
  z3 := Tryz.sizeOf3
  v3 := Tryz.zeroValue3
  t4 := Tryz.underlying4
  a4 := Tryz.isAgg4
  z4 := Tryz.sizeOf4
  v4 := Tryz.zeroValue4
  t9 := Tryz.underlying9
  a9 := Tryz.isAgg9
  z9 := Tryz.sizeOf9
  v9 := Tryz.zeroValue9
  t20 := Tryz.underlying20
  a20 := Tryz.isAgg20
  z20 := Tryz.sizeOf20
  v20 := Tryz.zeroValue20
  t31 := Tryz.underlying40
  a31 := Tryz.isAgg40
  z31 := Tryz.sizeOf40
  v31 := Tryz.zeroValue40
  t37 := Tryz.underlying71
  a37 := Tryz.isAgg71
  z37 := Tryz.sizeOf71
  v37 := Tryz.zeroValue71
  t70 := Tryz.underlying232
  a70 := Tryz.isAgg232
  z70 := Tryz.sizeOf232
  v70 := Tryz.zeroValue232
  t72 := Tryz.underlying234
  a72 := Tryz.isAgg234
  z72 := Tryz.sizeOf234
  v72 := Tryz.zeroValue234
  t75 := Tryz.underlying236
  a75 := Tryz.isAgg236
  z75 := Tryz.sizeOf236
  v75 := Tryz.zeroValue236
  t76 := Tryz.underlying237
  a76 := Tryz.isAgg237
  z76 := Tryz.sizeOf237
  v76 := Tryz.zeroValue237
  t127 := Tryz.underlying272
  a127 := Tryz.isAgg272
  z127 := Tryz.sizeOf272
  v127 := Tryz.zeroValue272
  t164 := Tryz.underlying292
  a164 := Tryz.isAgg292
  z164 := Tryz.sizeOf292
  v164 := Tryz.zeroValue292 }
theorem Tryz.Builder_Extra_156 : Builder.Extra Tryz.prog Tryz.lays156_ren := {
  sizeBuilder := by kernel_rfl
  liesBuilder := by kernel_rfl
  t5 := Tryz.underlying5
  a5 := Tryz.isAgg5
  z5 := Tryz.sizeOf5
  v5 := Tryz.zeroValue5
  infoByte := by kernel_rfl
  cellsByte := by kernel_rfl
  sizeByte := by kernel_rfl
  neB5 := by decide }
open Go.RowKit in
theorem Tryz.strings_Join (bk o c : Nat) (xs : List ByteArray) (sep : ByteArray) (w : World) (hcells : ∀ (j : Nat) x, xs[j]? = some x → w.cell? ⟨bk, o + j, none⟩ = some (.string x)) (hbk : bk < w.heap.size) (hN : xs.length ≤ 140737488355328) (hcap : xs.length ≤ c) (hlen : (Lib.join (xs.map (·.data.toList)) sep.data.toList).length ≤ 140737488355328) :
    Calls Tryz.prog 124 #[.slice (some ⟨bk, o, none⟩) xs.length c, .string sep] w fun e w' => e = .returned (.string ⟨(Lib.join (xs.map (·.data.toList)) sep.data.toList).toArray⟩) ∧ Below w.heap.size w w' := Any.strings_Join Tryz.lays156 Tryz.Builder_Extra_156 bk o c xs sep w hcells hbk hN hcap hlen
end Go.Proofs
end
