import Derived.Test.YtiidnoejnphocaaGreatDoorKs6
import Derived.Test.YtiidnoejnphocaaGreatDoorKs7
import Derived.Lib.DecodeN
import Derived.Test.YtiidnoejnphocaaGreatDoorChecked
import Derived.WalkKit
import Derived.ProofKit
import Derived.WalkSpells
import Derived.Lib.Hide
import Derived.WalkLawsBesides
import Derived.BigRegion
import Derived.RegionTactic
import Derived.BigQuiet
import Derived.Deep.RegionLaw
set_option linter.unusedSectionVars false
set_option linter.unusedVariables false
set_option linter.unusedSimpArgs false
namespace Go.Proofs.YtiidnoejnphocaaGreatDoor
section
namespace Pe
open Tryz
open Go Co
variable [Tab]
set_option maxRecDepth 100000
abbrev At (l : List By) : AV := .sl .ro (l.map .st)
theorem JQ {n : Int} (h : 0 ≤ n) (h' : n < 256) : IntKind.u8.wrap n = n := by
 show n % 2 ^ 8 = n
 omega
theorem MC {n : Nat} (h : n < 256) : (UInt8.ofNat n).toNat = n := by
 rw [UInt8.toNat_ofNat']; omega
theorem Q1 (acc : By) (b : UInt8) : acc.map u8 ++ [AV.it .u8 (b.toNat : Int)] = (acc ++ [b]).map u8 := by simp [u8]
theorem Cm (n : Int) (h : n < 9223372036854775808) (h0 : -9223372036854775808 ≤ n) : AC prog 152 [.it .i64 n] [] (.st (Ag n)) [] := by
 refine AC.enter [] [] func152 rfl (by decide) (by decide) (Nat.le_of_ble_eq_true rfl) (by kernel_rfl) ?_; refine An ?_
 by_cases hn : n < 0
 ·rw [show Ag n = [] from if_pos hn]
  refine run ?_;exact Ab
 obtain ⟨k, rfl⟩ := Int.eq_ofNat_of_zero_le (show 0 ≤ n by omega)
 rw [GT];refine run ?_;refine C2 (fun m e S => ∃ (acc : By) (j : Nat), e 0 = .it .i64 (j : Int) ∧ e 3 = .sl (.own 0) (acc.map u8) ∧ S = [.buf acc.length 5 1] ∧ acc ++ num j = num k ∧ j ≤ k ∧ acc.length + j ≤ k ∧ m = j) k _ _ (Ay.reserve 0 3 (es := []) (by rfl) 5 1) ⟨[], k, Ad, Ad, rfl, rfl, Nat.le_refl _, by simp, rfl⟩ ?_
 rintro q e S ⟨acc, q, s0, s3, rfl, hnum, hj, hacc, rfl⟩
 have hal : acc.length ≤ 8 := by
  have e1 := congrArg List.length hnum;have e2 := MF 8 k (by omega)
  have e3 := Sb q;rw [List.length_append] at e1;omega
 by_cases hs : q < 128
 ·have hb : IntKind.u8.wrap (q : Int) = ((UInt8.ofNat q).toNat : Int) := by rw [JQ (by omega) (by omega), MC (by omega)]
  have hsn := Q1 acc (UInt8.ofNat q);rw [Ih hs] at hnum;refine Aa (A4 @s0 @s3 @hb @hsn) ?_;rw [← hnum];exact Ab
 ·have ht : (q : Int).tmod 128 = ((q % 128 : Nat) : Int) := by rw [Int.tmod_eq_emod_of_nonneg (by omega)]; omega
  have hd : (q : Int).tdiv 128 = ((q / 128 : Nat) : Int) := by rw [Int.tdiv_eq_ediv_of_nonneg (by omega)]; omega
  have hb : IntKind.u8.wrap (128 + ((q % 128 : Nat) : Int)) = ((UInt8.ofNat (128 + q % 128)).toNat : Int) := by rw [JQ (by omega) (by omega), MC (by omega)]; omega
  rw [KS hs] at hnum;refine Aa (A5 @s0 @s3 @ht @hd @hb) ?_;refine Ao (q / 128) (by omega) ⟨acc ++ [UInt8.ofNat (128 + q % 128)], q / 128, Ad, by rw [← Q1]; exact Ad, by rw [List.length_append]; rfl, by rw [List.append_assoc]; exact hnum, by omega, by rw [List.length_append, List.length_singleton]; omega, rfl⟩
theorem Dl (s : By) (h : s.length ≤ 140737488355328) : AC prog 158 [.st s] [] (.st (text s)) [] := by
 refine AC.enter [152] [] func158 rfl (by decide) (by decide) (Nat.le_of_ble_eq_true rfl) (by kernel_rfl) ?_; refine An ?_
 have hl := Aj (s.length : Int) (by omega)
 refine run ?_;refine cp (Cm s.length (by omega) (by omega)) ?_
 rw [GT] at *;refine run ?_;exact Ab
theorem DM {n : Nat} (h : n < 9223372036854775808) : (num n).length ≤ 9 := MF 8 n (by omega)
theorem AG {s : By} (h : s.length ≤ 1000000) : (text s).length ≤ 1000009 := by
 have := DM (n := s.length) (by omega)
 unfold text; rw [List.length_append]; omega
theorem TR {l : List By} {k : Nat} (hk : k < l.length) : ((l.take (k + 1)).map text).flatten = ((l.take k).map text).flatten ++ text l[k] := by
 rw [List.take_succ_eq_append_getElem hk, List.map_append, List.flatten_append];congr 1
 exact List.append_nil _
theorem Px {l : List By} (hx : ∀ x ∈ l, x.length ≤ 1000000) : (l.map text).flatten.length ≤ l.length * 1000009 := by
 induction l with
 | nil => simp
 | cons a l ih =>
  have h1 := ih fun x h => hx x (by simp [h])
  have h2 := AG (hx a (by simp))
  rw [List.map_cons, List.flatten_cons, List.length_append, List.length_cons, Nat.succ_mul]; omega
theorem OV {l : List By} (hl : l.length ≤ 1000000) (hx : ∀ x ∈ l, x.length ≤ 1000000) : (list l).length ≤ 1000009000009 := by
 have := DM (n := l.length) (by omega)
 have h2 := Px hx;have h3 : l.length * 1000009 ≤ 1000000 * 1000009 := Nat.mul_le_mul_right _ hl;unfold list; rw [List.length_append]; omega
theorem Xj (l : List By) (hl : l.length ≤ 1000000) (hx : ∀ x ∈ l, x.length ≤ 1000000) : AC prog 320 [At l, .fn (.func 158) [] []] [] (.st (list l)) [] := by
 refine AC.enter [152, 1000019] [] func320 rfl (by decide) (by decide) (Nat.le_of_ble_eq_true rfl) (by kernel_rfl) ?_; refine An ?_
 have hn9 := DM (n := l.length) (by omega)
 refine run ?_;refine cp (Cm l.length (by omega) (by omega)) ?_
 rw [GT];refine run ?_;refine AF (fun m e S => e 1 = .fn (.func 158) [] [] ∧ e 12 = At l ∧ e 13 = .it .i64 (l.length : Int) ∧ ∃ (k : Nat) (acc : By), e 5 = .sl (.own 0) (acc.map u8) ∧ e 14 = .it .i64 (k : Int) ∧ S = [.buf acc.length 5 1] ∧ acc = num l.length ++ ((l.take k).map text).flatten ∧ k ≤ l.length ∧ m = l.length - k) l.length
  ⟨Ad, Ad, Ad, 0, num l.length, Ad, Ad, rfl, by simp, by omega, rfl⟩ ?_
 rintro m e S ⟨s1, s12, s13, k, acc, s5, s14, rfl, hacc, hk, rfl⟩
 by_cases hlt : k < l.length
 ·have ga : l[k]? = some l[k] := List.getElem?_eq_getElem hlt
  have hxk := hx l[k] (List.getElem_mem hlt);have htl := AG hxk;have hal : acc.length ≤ 1000009000009 := by
   have h1 := Px (l := l.take k) fun x h => hx x (List.mem_of_mem_take h)
   have h2 : (l.take k).length * 1000009 ≤ 1000000 * 1000009 := Nat.mul_le_mul_right _ (by rw [List.length_take]; omega)
   rw [hacc, List.length_append]; omega
  have hft := TR hlt;generalize l[k] = x at *;refine Aa (A6 @s1 @s5 @s12 @s13 @s14 @ga) ?_;refine cp (Dl x (by omega)) ?_
  refine Aa (A5 @s1 @s5 @s12 @s13 @s14) ?_;refine Ao (l.length - (k + 1)) (by omega) ⟨Ad, Ad, Ad, k + 1, acc ++ text x, by rw [List.map_append]; exact Ad, Ad, by rw [List.length_append], by rw [hacc, hft, List.append_assoc], by omega, rfl⟩
 ·obtain rfl : k = l.length := by omega
  rw [List.take_length] at hacc;refine Aa (A5 @s1 @s5 @s12 @s13 @s14) ?_;rw [show list l = acc from hacc.symm]
  exact Ab
theorem SN (l : List By) (hl : l.length ≤ 1000000) (hx : ∀ x ∈ l, x.length ≤ 1000000) : AC prog 280 [At l] [] (.st (list l)) [] := by
 refine AC.enter [320] [] func280 rfl (by decide) (by decide) (Nat.le_of_ble_eq_true rfl) (by kernel_rfl) ?_; refine An ?_
 refine run ?_;refine cp (Xj l hl hx) ?_;refine run ?_;exact Ab
end Pe
end
section
namespace Pe
open Tryz
open Go Co Ac
variable [Tab]
set_option maxRecDepth 100000
theorem Zdn (n b0 b1 b2 b3 : Nat) (h : 128 ≤ b0) : 128 ≤ (Lib.decodeN n b0 b1 b2 b3).1 := by
 unfold Lib.decodeN;rw [if_neg (by omega)]
 split
 ·split
  ·assumption
  ·decide
 split
 ·split
  ·rename_i h; exact Nat.le_trans (by decide) h.1
  ·decide
 split
 ·split
  ·rename_i h; exact Nat.le_trans (by decide) h.1
  ·decide
 ·decide
theorem Rj (l : By) (i : Nat) (h : i < l.length) : ∃ r w, EG l i = (r, w) ∧ (l[i].toNat < 128 → r = l[i].toNat ∧ w = 1) ∧ (128 ≤ l[i].toNat → 128 ≤ r) := by
 have hg : ((⟨l.toArray⟩ : ByteArray).get! i).toNat = l[i].toNat := by
  show (l.toArray[i]!).toNat = _
  rw [getElem!_pos l.toArray i (by simpa using h)]
  simp
 have e : ∃ n b1 b2 b3, EG l i = Lib.decodeN n l[i].toNat b1 b2 b3 := by
  unfold EG;rw [Lib.decode_at, hg];exact ⟨_, _, _, _, rfl⟩
 obtain ⟨n, b1, b2, b3, e⟩ := e;refine ⟨(EG l i).1, (EG l i).2, rfl, fun hb => ?_, fun hb => ?_⟩
 ·rw [e]
  unfold Lib.decodeN;rw [if_pos hb];exact ⟨rfl, rfl⟩
 ·rw [e]
  exact Zdn _ _ _ _ _ hb
theorem Ld (n : Int) : AC prog 249 [.it .i32 n] [] (.bo (decide (48 ≤ n) && decide (n ≤ 57))) [] := by
 refine AC.enter [] [] func249 rfl (by decide) (by decide) (Nat.le_of_ble_eq_true rfl) (by kernel_rfl) ?_; refine An ?_
 by_cases h : 48 ≤ n
 ·rw [decide_eq_true h]
  refine run ?_;exact Ab
 ·rw [decide_eq_false h]
  refine run ?_;exact Ab
theorem Jw (s : By) (hs : s.length ≤ 140737488355328) : AC prog 163 [.st s] [] (.bo (AD s)) [] := by
 refine AC.enter [249] [] func163 rfl (by decide) (by decide) (Nat.le_of_ble_eq_true rfl) (by kernel_rfl) ?_; refine An ?_
 unfold AD;by_cases hl : s.length = 16
 rotate_left
 ·rw [decide_eq_false hl]
  refine run ?_;exact Ab
 rw [decide_eq_true hl];refine run ?_;refine AF (fun m e S => e 0 = .st s ∧ e 9 = .ptr 0 0 ∧ ∃ k : Nat, S = [.siter s k] ∧ k ≤ s.length ∧ (s.take k).all E7 = true ∧ m = s.length - k) s.length ⟨Ad, Ad, 0, rfl, by omega, rfl, rfl⟩ ?_
 rintro m e S ⟨s0, s9, k, rfl, hk, hall, rfl⟩
 by_cases hlt : k < s.length
 rotate_left
 ·obtain rfl : k = s.length := by omega
  rw [List.take_length] at hall;rw [hall];refine Aa (A3 @s0 @s9 @hlt) ?_;exact Ab
 obtain ⟨r, w, hr, h1, h2⟩ := Rj s k hlt;have hx : E7 s[k] = true ↔ (48 ≤ r ∧ r ≤ 57) ∨ (97 ≤ r ∧ r ≤ 102) := by
  unfold E7;simp only [Bool.or_eq_true, Bool.and_eq_true, decide_eq_true_eq];by_cases h : s[k].toNat < 128
  ·rw [(h1 h).1]
  ·have := h2 (by omega); omega
 have hstep : s.take (k + 1) = s.take k ++ [s[k]] := List.take_succ_eq_append_getElem hlt;have hbad : E7 s[k] = false → s.all E7 = false := fun h => List.all_eq_false.2 ⟨s[k], List.getElem_mem hlt, by simp [h]⟩
 have hgood : E7 s[k] = true → w = 1 := fun h => by
  refine (h1 ?_).2
  refine Nat.lt_of_not_le fun h' => ?_
  have := h2 h';have := hx.1 h;omega
 generalize s[k] = b at *;clear h1 h2;cases hb : E7 b with
 | true =>
  obtain rfl := hgood hb;have hc := hx.1 hb;refine Aa (A4 @s0 @s9 @hlt @hr) ?_;refine cp (Ld r) ?_;rcases hc with ⟨c1, c2⟩ | ⟨c1, c2⟩
  iterate 2
   ·refine Aa (an @s0 @s9) ?_
    exact Ao (s.length - (k + 1)) (by omega) ⟨Ad, Ad, k + 1, rfl, by omega, by rw [hstep, List.all_append, hall]; simp [hb], rfl⟩
 | false =>
  rw [hbad hb];have hc : ¬ ((48 ≤ r ∧ r ≤ 57) ∨ (97 ≤ r ∧ r ≤ 102)) := fun h => by rw [hx.2 h] at hb; cases hb
  clear hbad hgood hx;refine Aa (A4 @s0 @s9 @hlt @hr) ?_;refine cp (Ld r) ?_;by_cases c1 : r < 48
  ·refine Aa (an @s0 @s9) ?_
   exact Ab
  by_cases c2 : r < 97
  ·refine Aa (an @s0 @s9) ?_
   exact Ab
  ·refine Aa (an @s0 @s9) ?_
   exact Ab
theorem Sr {s : By} {k : Nat} (hk : k < s.length) (h : (if k = 0 then Cx s[k] else C1 s[k]) = false) : BQ s = false := by
 cases s with
 | nil => rfl
 | cons c r =>
  show (decide (r.length ≤ 23) && Cx c && r.all C1) = false
  cases k with
  | zero => simp at h; simp [h]
  | succ k =>
   simp only [List.getElem_cons_succ, Nat.add_one_ne_zero, if_false] at h
   have : r.all C1 = false := List.all_eq_false.2 ⟨_, List.getElem_mem (by simpa using hk), by rw [h]; simp⟩
   rw [this];simp
theorem Sp {s : By} (h0 : 0 < s.length) (hl : s.length ≤ 24) (h : ∀ j (hj : j < s.length), (if j = 0 then Cx s[j] else C1 s[j]) = true) : BQ s = true := by
 cases s with
 | nil => simp at h0
 | cons c r =>
  show (decide (r.length ≤ 23) && Cx c && r.all C1) = true
  have h1 := h 0 (by simp)
  simp only [List.getElem_cons_zero, if_true] at h1;have h2 : r.all C1 = true := List.all_eq_true.2 fun x hx => by
   obtain ⟨j, hj, rfl⟩ := List.getElem_of_mem hx;have := h (j + 1) (by simp; omega)
   simpa using this
  simp only [List.length_cons] at hl;rw [h1, h2, decide_eq_true (by omega)]
  rfl
theorem Sq {s : By} (h : 24 < s.length) : BQ s = false := by
 cases s with
 | nil => rfl
 | cons c r =>
  simp only [List.length_cons] at h;show (decide (r.length ≤ 23) && Cx c && r.all C1) = false
  rw [decide_eq_false (by omega)]
  rfl
set_option maxHeartbeats 1600000 in
theorem MI (s : By) (hs : s.length ≤ 140737488355328) : AC prog 258 [.st s] [] (.bo (BQ s)) [] := by
 refine AC.enter [249] [] func258 rfl (by decide) (by decide) (Nat.le_of_ble_eq_true rfl) (by kernel_rfl) ?_; refine An ?_
 by_cases h0 : s = []
 ·subst h0
  rw [show BQ [] = false from rfl]
  refine run ?_;exact Ab
 have hne : (s == []) = false := by simpa using h0
 have hpos : 0 < s.length := List.length_pos_iff.2 h0;by_cases hl : 24 < s.length
 ·rw [Sq hl]
  refine Aa @hne ?_;exact Ab
 refine Aa @hne ?_;refine AF (fun m e S => e 0 = .st s ∧ e 14 = .ptr 0 0 ∧ ∃ k : Nat, S = [.siter s k] ∧ k ≤ s.length ∧ (∀ j (hj : j < s.length), j < k → (if j = 0 then Cx s[j] else C1 s[j]) = true) ∧ m = s.length - k) s.length ⟨Ad, Ad, 0, rfl, by omega, fun j _ h => absurd h (Nat.not_lt_zero _), rfl⟩ ?_
 rintro m e S ⟨s0, s14, k, rfl, hk, hall, rfl⟩
 by_cases hlt : k < s.length
 rotate_left
 ·rw [Sp hpos (by omega) fun j hj => hall j hj (by omega)]
  refine Aa (A3 @s0 @s14 @hlt) ?_;exact Ab
 obtain ⟨r, w, hr, h1, h2⟩ := Rj s k hlt;have hx : (if k = 0 then Cx s[k] else C1 s[k]) = true ↔ (97 ≤ r ∧ r ≤ 122) ∨ (k ≠ 0 ∧ ((48 ≤ r ∧ r ≤ 57) ∨ r = 95)) := by
  have h3 : s[k].toNat = r ∨ (128 ≤ s[k].toNat ∧ 128 ≤ r) := by
   by_cases h : s[k].toNat < 128
   ·exact .inl (h1 h).1.symm
   ·exact .inr ⟨by omega, h2 (by omega)⟩
  split
  ·rename_i hk0
   simp only [Cx, Bool.and_eq_true, decide_eq_true_eq];omega
  ·rename_i hk0
   simp only [C1, Cx, Bool.or_eq_true, Bool.and_eq_true, decide_eq_true_eq];omega
 have hbad := fun h => Sr (s := s) (k := k) hlt h
 have hgood : (if k = 0 then Cx s[k] else C1 s[k]) = true → w = 1 := fun h => by
  refine (h1 ?_).2
  refine Nat.lt_of_not_le fun h' => ?_
  have := h2 h';have := hx.1 h;omega
 have hnext : (if k = 0 then Cx s[k] else C1 s[k]) = true → ∀ j (hj : j < s.length), j < k + 1 → (if j = 0 then Cx s[j] else C1 s[j]) = true := fun h j hj hjk => by
  by_cases e : j = k
  ·subst e; exact h
  ·exact hall j hj (by omega)
 generalize (if k = 0 then Cx s[k] else C1 s[k]) = b at *
 clear h1 h2;cases b with
 | true =>
  obtain rfl := hgood rfl;have hc := hx.1 rfl;have hn := hnext rfl;clear hbad hgood hx hnext;rcases hc with c1 | ⟨c0, c1⟩
  ·refine Aa (A4 @s0 @s14 @hlt @hr) ?_
   exact Ao (s.length - (k + 1)) (by omega) ⟨Ad, Ad, k + 1, rfl, by omega, hn, rfl⟩
  ·have c00 : ¬ ((k : Int) = 0) := by omega
   by_cases cl : r < 97
   focus
    refine Aa (A4 @s0 @s14 @hlt @hr) ?_;refine cp (Ld r) ?_;rcases c1 with c1 | c1
    ·refine Aa (an @s0 @s14) ?_
     exact Ao (s.length - (k + 1)) (by omega) ⟨Ad, Ad, k + 1, rfl, by omega, hn, rfl⟩
    ·subst c1
     refine Aa (an @s0 @s14) ?_;exact Ao (s.length - (k + 1)) (by omega) ⟨Ad, Ad, k + 1, rfl, by omega, hn, rfl⟩
   exact absurd c1 (by omega)
 | false =>
  rw [hbad rfl];have hc : ¬ ((97 ≤ r ∧ r ≤ 122) ∨ (k ≠ 0 ∧ ((48 ≤ r ∧ r ≤ 57) ∨ r = 95))) := fun h => by have := hx.2 h; cases this
  clear hbad hgood hx hnext hall;by_cases hk0 : k = 0
  ·subst hk0
   by_cases c1 : r < 97
   iterate 2
    ·refine Aa (A4 @s0 @s14 @hlt @hr) ?_
     exact Ab
  by_cases c1 : r < 97
  focus
   refine Aa (A4 @s0 @s14 @hlt @hr) ?_;refine cp (Ld r) ?_;by_cases c2 : r < 48
   ·refine Aa (an @s0 @s14) ?_
    exact Ab
   ·refine Aa (an @s0 @s14) ?_
    exact Ab
  focus
   refine Aa (A4 @s0 @s14 @hlt @hr) ?_;refine cp (Ld r) ?_;refine Aa (an @s0 @s14) ?_;exact Ab
theorem P0 : ∀ {l : List By}, (∀ j (h : j + 1 < l.length), (Op.bytesLess l[j + 1] l[j] || l[j + 1] == l[j]) = false) → IK l = true
 | [], _ => rfl
 | [_], _ => rfl
 | a :: b :: r, h => by
  unfold IK;have h0 := h 0 (by simp)
  simp only [List.getElem_cons_succ, List.getElem_cons_zero] at h0;rw [h0, P0 fun j hj => by
   have := h (j + 1) (by simp at hj ⊢; omega)
   simpa using this]
  rfl
theorem P1 : ∀ {l : List By} {j : Nat} (h : j + 1 < l.length), (Op.bytesLess l[j + 1] l[j] || l[j + 1] == l[j]) = true → IK l = false
 | [], _, h, _ => by simp at h
 | [_], _, h, _ => by simp at h
 | a :: b :: r, 0, _, h => by
  simp only [List.getElem_cons_succ, List.getElem_cons_zero] at h;unfold IK;rw [h];rfl
 | a :: b :: r, j + 1, hj, h => by
  unfold IK;rw [P1 (l := b :: r) (j := j) (by simp at hj ⊢; omega) (by simpa using h)]
  simp
set_option maxHeartbeats 1600000 in
theorem Lh (l : List By) (hs : ∀ s ∈ l, s.length ≤ 140737488355328) (hl : l.length ≤ 140737488355328) : AC prog 261 [At l] [] (.bo (BR l)) [] := by
 refine AC.enter [163] [] func261 rfl (by decide) (by decide) (Nat.le_of_ble_eq_true rfl) (by kernel_rfl) ?_; refine An ?_
 unfold BR;by_cases h64 : l.length ≤ 64
 rotate_left
 ·rw [decide_eq_false h64]
  refine run ?_;exact Ab
 rw [decide_eq_true h64];refine run ?_;refine AF (fun m e S => S = [] ∧ e 0 = At l ∧ e 8 = At l ∧ e 9 = .it .i64 (l.length : Int) ∧ ∃ k : Nat, e 10 = .it .i64 (k : Int) ∧ k ≤ l.length ∧ (∀ j (h : j < l.length), j < k → AD l[j] = true) ∧
  (∀ j (h : j + 1 < l.length), j + 1 < k → (Op.bytesLess l[j + 1] l[j] || l[j + 1] == l[j]) = false) ∧ m = l.length - k) l.length ⟨rfl, Ad, Ad, Ad, 0, Ad, by omega, fun j _ h => absurd h (Nat.not_lt_zero _), fun j _ h => absurd h (Nat.not_lt_zero _), rfl⟩ ?_
 rintro m e S ⟨rfl, s0, s8, s9, k, s10, hk, hid, hasc, rfl⟩
 by_cases hlt : k < l.length
 rotate_left
 ·obtain rfl : k = l.length := by omega
  have h1 : l.all AD = true := List.all_eq_true.2 fun x hx => by
   obtain ⟨j, hj, rfl⟩ := List.getElem_of_mem hx;exact hid j hj hj
  rw [h1, P0 fun j h => hasc j h h]
  refine Aa (A4 @s0 @s8 @s9 @s10) ?_;exact Ab
 have hg : l[k]? = some l[k] := List.getElem?_eq_getElem hlt
 have hsk := hs l[k] (List.getElem_mem hlt);refine Aa (A5 @s0 @s8 @s9 @s10 @hg) ?_;refine cp (Jw l[k] hsk) ?_;cases hb : AD l[k] with
 | false =>
  have : l.all AD = false := List.all_eq_false.2 ⟨l[k], List.getElem_mem hlt, by simp [hb]⟩
  rw [this];refine Aa (A4 @s0 @s8 @s9 @s10) ?_;exact Ab
 | true =>
  have hid' : ∀ j (h : j < l.length), j < k + 1 → AD l[j] = true := fun j h hj => by
   by_cases e : j = k
   ·subst e; exact hb
   ·exact hid j h (by omega)
  cases k with
  | zero =>
   refine Aa (A5 @s0 @s8 @s9 @s10 @hg) ?_;exact Ao (l.length - 1) (by omega) ⟨rfl, Ad, Ad, Ad, 1, Ad, by omega, hid', fun j _ h => by omega, rfl⟩
  | succ k =>
   have hg' : l[k]? = some l[k] := List.getElem?_eq_getElem (by omega)
   have hc : ((k + 1 : Nat) : Int) - 1 = (k : Int) := by omega
   have hpos : (0 : Int) < ((k + 1 : Nat) : Int) := by omega
   cases hcmp : (Op.bytesLess l[k + 1] l[k] || l[k + 1] == l[k]) with
   | true =>
    rw [P1 (j := k) hlt hcmp, Bool.and_false];refine Aa (A8 @s0 @s8 @s9 @s10 @hg @hg' @hc @hcmp) ?_;exact Ab
   | false =>
    refine Aa (A8 @s0 @s8 @s9 @s10 @hg @hg' @hc @hcmp) ?_;exact Ao (l.length - (k + 1 + 1)) (by omega) ⟨rfl, Ad, Ad, Ad, k + 1 + 1, Ad, by omega, hid', fun j h hj => by
     by_cases e : j = k
     ·subst e; exact hcmp
     ·exact hasc j h (by omega), rfl⟩
end Pe
end
section
namespace Pe
open Tryz
open Go
variable [Tab]
set_option maxRecDepth 100000
def AU (n : Nat) : Nat := if n = 0 then 0 else Nat.log2 n + 1
theorem II {n s : Nat} (h : 2 ^ s ≤ n) : AU n = AU (n / 2 ^ s) + s := by
 have hp : 0 < 2 ^ s := Nat.pow_pos (by omega)
 have h1 : 0 < n / 2 ^ s := Nat.div_pos h hp;unfold AU;rw [if_neg (by omega), if_neg (by omega)]
 have e : Nat.log2 n = Nat.log2 (n / 2 ^ s) + s := by
  have h2 := (Nat.log2_eq_iff (n := n / 2 ^ s) (k := Nat.log2 (n / 2 ^ s)) (by omega)).1 rfl
  refine (Nat.log2_eq_iff (by omega)).2 ⟨?_, ?_⟩
  ·rw [Nat.pow_add]
   exact (Nat.le_div_iff_mul_le hp).1 h2.1
  ·rw [show Nat.log2 (n / 2 ^ s) + s + 1 = (Nat.log2 (n / 2 ^ s) + 1) + s from by omega, Nat.pow_add]
   exact (Nat.div_lt_iff_lt_mul hp).1 h2.2
 omega
theorem Dy (n : Nat) (b : Int) (s : Nat) (h : b = (s : Int)) (h' : s ≤ 64) : F4 .u64 (n : Int) b = some (.it .u64 ((n / 2 ^ s : Nat) : Int)) := by
 subst h;unfold F4;rw [if_pos (by omega)]
 congr 2
 rw [Int.toNat_natCast, show min s IntKind.u64.bits = s from Nat.min_eq_left h']
 rw [Int.fdiv_eq_ediv_of_nonneg _ (by exact Int.le_of_lt (Int.pow_pos (by omega)))]
 norm_cast
theorem GM (x : Nat) (h : x < 256) : IntKind.u8.wrap (x : Int) = (x : Int) := by
 rw [NQ];simp; omega
theorem GA (x : Nat) : AU x ≤ x + 1 := by
 unfold AU;split
 ·omega
 ·have := Nat.log2_lt (n := x) (k := x) (by assumption)
  have := this.2 Nat.lt_two_pow_self;omega
theorem GN (L : List UInt8) (hL : ∀ x, x < 256 → L[x]? = some (UInt8.ofNat (AU x))) (x : Nat) (h : x < 256) : (if 0 ≤ (x : Int) then Option.map u8 L[x]? else none) = some (.it .u8 (AU x : Int)) := by
 rw [if_pos (by omega), hL x h]
 have : AU x < 256 := by
  have : AU x ≤ 8 := by
   unfold AU;split
   ·omega
   ·have := (Nat.log2_lt (n := x) (k := 8) (by assumption)).2 (by omega)
    omega
  omega
 simp only [u8, Option.map_some];congr 2
 simp; omega
set_option maxHeartbeats 2000000 in
theorem MR (n : Nat) (h : n < 18446744073709551616) : AC prog 184 [.it .u64 n] [] (.it .i64 (AU n)) [] := by
 have s8 : ∀ n : Nat, F4 .u64 (n : Int) 8 = some (.it .u64 ((n / 2 ^ 8 : Nat) : Int)) := fun n => Dy n 8 8 rfl (by omega)
 have s16 : ∀ n : Nat, F4 .u64 (n : Int) 16 = some (.it .u64 ((n / 2 ^ 16 : Nat) : Int)) := fun n => Dy n 16 16 rfl (by omega)
 have s32 : ∀ n : Nat, F4 .u64 (n : Int) 32 = some (.it .u64 ((n / 2 ^ 32 : Nat) : Int)) := fun n => Dy n 32 32 rfl (by omega)
 refine AC.enter [] [] func184 rfl (by decide) (by decide) (Nat.le_of_ble_eq_true rfl) (by kernel_rfl) ?_; refine An ?_
 refine run ?_;refine Fy (fun h1 => ?_) (fun h1 => ?_)
 ·have l32 : 4294967296 ≤ n := by have := of_decide_eq_true h1; omega
  have e32 := II (n := n) (s := 32) l32;have m32 : n / 2 ^ 32 < 4294967296 := by omega
  refine Aa (A3 @s32 @s16 @s8) ?_;generalize n / 2 ^ 32 = x at *;refine Fy (fun h1 => ?_) (fun h1 => ?_)
  ·have l16 : 65536 ≤ x := by have := of_decide_eq_true h1; omega
   have e16 := II (n := x) (s := 16) l16;have m16 : x / 2 ^ 16 < 65536 := by omega
   refine Aa (A3 @s32 @s16 @s8) ?_;generalize x / 2 ^ 16 = y at *;refine Fy (fun h1 => ?_) (fun h1 => ?_)
   ·have l8 : 256 ≤ y := by have := of_decide_eq_true h1; omega
    have e8 := II (n := y) (s := 8) l8;have m8 : y / 2 ^ 8 < 256 := by omega
    refine Aa (A3 @s32 @s16 @s8) ?_;generalize y / 2 ^ 8 = z at *;have t1 := GM z (by omega)
    have t3 := GA z;refine Aa @t1 ?_;refine Hd _ (GN _ (by decide +kernel) z (by omega)) ?_
    refine Aa @Int.zero_add ?_;refine F0 (by rfl) (by rfl) ?_
    exact congrArg (AV.it .i64) (by omega)
   ·have l8 : y < 256 := by have := of_decide_eq_false h1; omega
    refine run ?_;have t1 := GM y (by omega)
    have t3 := GA y;refine Aa @t1 ?_;refine Hd _ (GN _ (by decide +kernel) y (by omega)) ?_
    refine Aa @Int.zero_add ?_;refine F0 (by rfl) (by rfl) ?_
    exact congrArg (AV.it .i64) (by omega)
  ·have l16 : x < 65536 := by have := of_decide_eq_false h1; omega
   refine run ?_;refine Fy (fun h1 => ?_) (fun h1 => ?_)
   ·have l8 : 256 ≤ x := by have := of_decide_eq_true h1; omega
    have e8 := II (n := x) (s := 8) l8;have m8 : x / 2 ^ 8 < 256 := by omega
    refine Aa (A3 @s32 @s16 @s8) ?_;generalize x / 2 ^ 8 = z at *;have t1 := GM z (by omega)
    have t3 := GA z;refine Aa @t1 ?_;refine Hd _ (GN _ (by decide +kernel) z (by omega)) ?_
    refine Aa @Int.zero_add ?_;refine F0 (by rfl) (by rfl) ?_
    exact congrArg (AV.it .i64) (by omega)
   ·have l8 : x < 256 := by have := of_decide_eq_false h1; omega
    refine run ?_;have t1 := GM x (by omega)
    have t3 := GA x;refine Aa @t1 ?_;refine Hd _ (GN _ (by decide +kernel) x (by omega)) ?_
    refine Aa @Int.zero_add ?_;refine F0 (by rfl) (by rfl) ?_
    exact congrArg (AV.it .i64) (by omega)
 ·have l32 : n < 4294967296 := by have := of_decide_eq_false h1; omega
  refine run ?_;refine Fy (fun h1 => ?_) (fun h1 => ?_)
  ·have l16 : 65536 ≤ n := by have := of_decide_eq_true h1; omega
   have e16 := II (n := n) (s := 16) l16;have m16 : n / 2 ^ 16 < 65536 := by omega
   refine Aa (A3 @s32 @s16 @s8) ?_;generalize n / 2 ^ 16 = y at *;refine Fy (fun h1 => ?_) (fun h1 => ?_)
   ·have l8 : 256 ≤ y := by have := of_decide_eq_true h1; omega
    have e8 := II (n := y) (s := 8) l8;have m8 : y / 2 ^ 8 < 256 := by omega
    refine Aa (A3 @s32 @s16 @s8) ?_;generalize y / 2 ^ 8 = z at *;have t1 := GM z (by omega)
    have t3 := GA z;refine Aa @t1 ?_;refine Hd _ (GN _ (by decide +kernel) z (by omega)) ?_
    refine Aa @Int.zero_add ?_;refine F0 (by rfl) (by rfl) ?_
    exact congrArg (AV.it .i64) (by omega)
   ·have l8 : y < 256 := by have := of_decide_eq_false h1; omega
    refine run ?_;have t1 := GM y (by omega)
    have t3 := GA y;refine Aa @t1 ?_;refine Hd _ (GN _ (by decide +kernel) y (by omega)) ?_
    refine Aa @Int.zero_add ?_;refine F0 (by rfl) (by rfl) ?_
    exact congrArg (AV.it .i64) (by omega)
  ·have l16 : n < 65536 := by have := of_decide_eq_false h1; omega
   refine run ?_;refine Fy (fun h1 => ?_) (fun h1 => ?_)
   ·have l8 : 256 ≤ n := by have := of_decide_eq_true h1; omega
    have e8 := II (n := n) (s := 8) l8;have m8 : n / 2 ^ 8 < 256 := by omega
    refine Aa (A3 @s32 @s16 @s8) ?_;generalize n / 2 ^ 8 = z at *;have t1 := GM z (by omega)
    have t3 := GA z;refine Aa @t1 ?_;refine Hd _ (GN _ (by decide +kernel) z (by omega)) ?_
    refine Aa @Int.zero_add ?_;refine F0 (by rfl) (by rfl) ?_
    exact congrArg (AV.it .i64) (by omega)
   ·have l8 : n < 256 := by have := of_decide_eq_false h1; omega
    refine run ?_;have t1 := GM n (by omega)
    have t3 := GA n;refine Aa @t1 ?_;refine Hd _ (GN _ (by decide +kernel) n (by omega)) ?_
    refine Aa @Int.zero_add ?_;refine F0 (by rfl) (by rfl) ?_
    exact congrArg (AV.it .i64) (by omega)
end Pe
end
section
section
open Go.RowKit Sm
set_option maxRecDepth 100000
theorem Zy {k : IntKind} {a b : Int} (h : a = b) : Ending.returned (.int k a) = .returned (.int k b) := by rw [h]
theorem LW {k : IntKind} {a b : Int} (h : a = b) : Value.int k a = .int k b := by rw [h]
def Fp (w : World) (b : Nat) (t : TypeId) (n : Nat) (ws : List (BitVec 32)) : Prop := w.rowIs b t n (fun j => Ah (ws.getD j 0))
theorem Rv {w : World} {b : Nat} {t : TypeId} {n : Nat} {ws : List (BitVec 32)} (h : Fp w b t n ws) (x : BitVec 32) : Fp (w.setCell ⟨b, ws.length, none⟩ (Ah x)) b t n (ws ++ [x]) := by
 refine World.rowIs.congr (World.rowIs.set h ws.length (Ah x)) fun i _ => ?_
 rw [ZbW];split <;> rfl
theorem Rs {w : World} {b : Nat} (n : Nat) (cs : Array Value) (t : TypeId) (hb : b = w.heap.size) (h : cs = (List.replicate n (Value.int .u32 0)).toArray) : Fp (w.alloc (.cells cs t)) b t n [] := by
 subst h hb;have := World.rowIs_alloc w (List.replicate n (Value.int .u32 0)).toArray t (fun _ => Ah 0) (fun i hi => by
  simp at hi
  simp [List.getElem?_replicate, hi]
  rfl)
 simpa [Fp] using this
theorem NX (x : BitVec 32) (n : Int) (w : World) (h0 : 0 < n) (h : n < 32) :
  Calls Tryz.prog 200 #[Ah x, .int .i64 n] w fun e w' => e = .returned (Ah (CZ x n.toNat)) ∧ w = w' := by
 have e := Zb x n h0 h;have E := Veil.mk e; clear e;go_enter Tryz.func200, Tryz.ntmps200
 go_wp2
 go_ret
 rw [← E.out];exact ⟨rfl, rfl⟩
theorem Za {w : World} {b : Nat} {t : TypeId} {n : Nat} (h : Fp w b t n []) : Fp w b t n (List.replicate n 0) :=
 World.rowIs.congr h (fun i hi => by simp [List.getElem?_replicate, hi])
theorem Rx {w : World} {b : Nat} {t : TypeId} {n : Nat} {ws : List (BitVec 32)} (h : Fp w b t n ws) (hl : ws.length = n) : w.heap[b]? = some (.cells (ws.map Ah).toArray t (0, 0)) := by
 obtain ⟨cs, hc, hs, he⟩ := h;rw [hc]
 have : cs = (ws.map Ah).toArray := by
  apply Array.ext
  ·simp [hs, hl]
  ·intro i h1 h2
   have := he i (by omega)
   rw [Array.getElem?_eq_getElem h1] at this
   injection this with this
   rw [this];simp at h2
   simp [List.getElem?_eq_getElem h2]
 rw [this]
theorem MX : (Tryz.prog.info? 231).map (·.size) = some 64 := by kernel_rfl
theorem Gr : (Tryz.prog.info? 173).map (·.size) = some 8 := by kernel_rfl
set_option maxRecDepth 100000 in
set_option maxHeartbeats 4000000 in
theorem YK (s : ByteArray) (w : World) (hs : s.size = 64) :
  Calls Tryz.prog 199 #[.string s] w fun e w' => e = .returned (.agg ((CY s.data.toList).map Ah).toArray) ∧ Below w.heap.size w w' := by
 have Hs := Veil.mk hs; clear hs;go_enter Tryz.func199, Tryz.ntmps199
 go_wp2
 go_loopw [4, 5, 11] (fun _ _ i wr => ∃ k : Nat, k ≤ 16 ∧ i = .int .i64 k ∧ Fp wr w.heap.size 231 64 [] ∧ Fp wr (w.heap.size + 1) 231 64 (E9 s.data.toList k) ∧ Below w.heap.size w wr) (fun _ _ i _ => 16 - (intOf i).toNat)
 case atStart =>
  refine ⟨0, by omega, rfl, World.rowIs.alloc (Rs 64 _ _ rfl rfl) _, ?_, ?_⟩
  ·exact Rs 64 _ _ (by simp) rfl
  ·exact ((Below.refl _ _).alloc (Nat.le_refl _) _).alloc (by simp) _
 case round =>
  obtain ⟨k, hk, rfl, h0, h1, hb⟩ := hrel;by_cases hlt : k < 16
  ·have hs := Hs.out
   have a1 : 4 * k + 4 ≤ s.size := by omega
   clear hs;have H0 := Veil.mk h0; clear h0;have H1 := Veil.mk h1;have c1 := h1.cell (i := k) (by omega)
   have f1 := h1.frozen k;clear h1;go_wp2
   generalize hx : s.extract (4 * k) (4 * k + 4) = x;have ht : 4 ≤ x.size := by subst hx; rw [ByteArray.size_extract]; omega
   have key : ∀ i (h' : i < x.size) (_ : i < 4), x[i] = s.data.toList.getD (4 * k + i) 0 := by
    subst hx; intro i h' h; exact Zct s _ _ i (by omega) a1 h'
   have Key := Veil.mk key;clear key hx;have i0 : 0 < x.size := by omega
   have i1 : (1 : Int) < x.size := by omega
   have i2 : (2 : Int) < x.size := by omega
   have i3 : (3 : Int) < x.size := by omega
   go_region
   go_wp2
   go_roundw
   case rel =>
    have e := Rv H1.out (JV x[0] x[1] x[2] x[3]);rw [Py] at e;refine ⟨k + 1, by omega, by go_num, World.rowIs.setOther H0.out (by simp) _, ?_, (hb.setCell (by simp) _).drew⟩
    rw [TV, LS];rw [Key.out 0 (by omega) (by omega), Key.out 1 (by omega) (by omega), Key.out 2 (by omega) (by omega), Key.out 3 (by omega) (by omega)] at e ⊢
    exact e
   case measure => simp [intOf]; omega
  ·have hk16 : 16 ≤ k := by omega
   clear hlt;go_wp2
   go_loopw [6, 7, 8] (fun i _ _ wr => ∃ m : Nat, 16 ≤ m ∧ m ≤ 64 ∧ i = .int .i64 m ∧ Fp wr w.heap.size 231 64 [] ∧ Fp wr (w.heap.size + 1) 231 64 (BF s.data.toList (m - 16)) ∧ Below w.heap.size w wr) (fun i _ _ _ => 64 - (intOf i).toNat)
   case atStart =>
    obtain rfl : k = 16 := by omega
    exact ⟨16, by omega, by omega, rfl, h0, h1, hb⟩
   case round =>
    obtain ⟨m, hm0, hm, rfl, h0, h1, hb⟩ := hrel;by_cases hlt : m < 64
    ·have H0 := Veil.mk h0; clear h0
     have H1 := Veil.mk h1;have c15 := h1.cell (i := m - 15) (by omega)
     have c2 := h1.cell (i := m - 2) (by omega)
     have c7 := h1.cell (i := m - 7) (by omega)
     have c16 := h1.cell (i := m - 16) (by omega)
     have c0 := h1.cell (i := m) (by omega)
     have f0 := h1.frozen m;clear h1;go_wp2
     go_quiet (fail)
     go_wp2_with (go_at_call 200; refine (NX _ _ _ (by omega) (by omega)).mono ?_; rintro e w' ⟨rfl, rfl⟩)
     go_region
     go_wp2
     go_roundw
     case rel =>
      have e := Rv H1.out (MH (BF s.data.toList (m - 16)) m);rw [Mi, show 16 + (m - 16) = m from by omega] at e
      refine ⟨m + 1, by omega, by omega, by go_num, World.rowIs.setOther H0.out (by simp) _, ?_, (He (hb.setCell (by simp) _) _)⟩
      rw [show m + 1 - 16 = m - 16 + 1 from by omega, BF, show 16 + (m - 16) = m from by omega]
      exact e
     case measure => simp [intOf]; omega
    ·have hm64 : 64 ≤ m := by omega
     have e : CY s.data.toList = BF s.data.toList (m - 16) := by rw [CY, show m - 16 = 48 from by omega]
     have E := Veil.mk e; clear e;have hl : (BF s.data.toList (m - 16)).length = 64 := by rw [Mi]; omega
     generalize hws : BF s.data.toList (m - 16) = ws at h1 hl;have Ews := Veil.mk hws; clear hws hlt;have hr0 := Rx (Za h0) (by simp)
     have hr1 := Rx h1 hl;have Hr1 := Veil.mk hr1;have Hr0 := Veil.mk hr0;have Hl := Veil.mk hl;clear h0 h1 hr0 hr1 hl;have Hc : Veil (∀ j u, (ws.map Ah)[j]? = some u → (ws.map Ah).toArray[0 + j]? = some u) := ⟨fun j u hu => by simpa using hu⟩
     have Hf : Veil ((ws.map Ah).length = (List.map Ah (List.replicate 64 0)).toArray.size) := ⟨by simp [Hl.out]⟩
     have Ho : Veil (∀ u ∈ ws.map Ah, u.oneCell' = true) := ⟨OI _⟩
     have Hi : Veil (some 64 = some (ws.map Ah).length) := ⟨by rw [List.length_map, Hl.out]⟩
     go_wp2_with (first
      | (refine SR rfl _ (.tmp 3) rfl (w.heap.size + 1) 0 rfl Hr1.out Tryz.underlying231 rfl (ws.map Ah) (MX.trans Hi.out) Hc.out ?_)
      | (refine Kz rfl _ (.tmp 2) (.tmp 85) rfl w.heap.size rfl (ws.map Ah) rfl Hr0.out (MX.trans Hi.out) Hf.out Ho.out ?_))
     refine bodyPost_ret (results_cell_row rfl _ _ w.heap.size _ _ _ _ rfl (setRow_heap wr w.heap.size _ _ _ _ Hr0.out) Tryz.underlying231 rfl (MX.trans (by rw [Hi.out]; simp))) rfl ?_
     exact ⟨by rw [E.out, Ews.out], Nv hb (Nat.le_refl _) _⟩
def C6 (w : World) : Prop := (∀ i, i < 64 → w.cell? ⟨1, i, none⟩ = some (Ah (Ej.getD i 0))) ∧ (∀ i, i < 8 → w.cell? ⟨0, i, none⟩ = some (Ah (BA.list.getD i 0)))
theorem C6.keep {w w' : World} (h : C6 w) (hk : ∀ b, b < w.heap.size → w'.heap[b]? = w.heap[b]?) : C6 w' := by
 refine ⟨fun i hi => ?_, fun i hi => ?_⟩
 ·rw [World.cell?_of_block (hk _ (World.block_lt_of_cell? w _ (h.1 i hi)))]
  exact h.1 i hi
 ·rw [World.cell?_of_block (hk _ (World.block_lt_of_cell? w _ (h.2 i hi)))]
  exact h.2 i hi
theorem C6.below {w w' : World} (h : C6 w) {B : Nat} (hb : Below B w w') (hB : w.heap.size ≤ B) : C6 w' := h.keep fun b hlt => hb.block b (by omega)
theorem C6.drew {w : World} (h : C6 w) : C6 w.drew := h
theorem C6.alloc {w : World} (h : C6 w) (o : Obj) : C6 (w.alloc o) := h.keep fun b hb => heap_alloc_old w o hb
set_option maxRecDepth 100000 in
set_option maxHeartbeats 4000000 in
theorem SB (st : S8) (s : ByteArray) (w : World) (hs : s.size = 64) (hT : C6 w) :
  Calls Tryz.prog 122 #[.agg st.cells.toArray, .string s] w fun e w' => e = .returned (.agg (Fu st s.data.toList).cells.toArray) ∧ Below w.heap.size w w' := by
 have Hs := Veil.mk hs; clear hs;have HT := Veil.mk hT; clear hT;obtain ⟨va, vb, vc, vd, ve, vf, vg, vh⟩ := st;simp only [S8.cells];go_enter Tryz.func122, Tryz.ntmps122
 go_wp2_with (first
  | (go_at_call 199; refine (YK s _ Hs.out).mono ?_; rintro e w1 ⟨rfl, hb1⟩)
  | (refine QY _ rfl _ (.tmp 5) (.tmp 18) rfl rfl ((CY s.data.toList).map Ah) rfl ?_ ?_ (OI _) ?_))
 ·exact MX.trans (by rw [List.length_map, Jf])
 ·rw [List.length_map, Jf]; rfl
 have hbs : Below w.heap.size w w1 := (((Below.refl _ _).alloc (Nat.le_refl _) _).alloc (by simp) _).trans (hb1.mono (by simp; omega))
 have hsz : w.heap.size + 2 ≤ w1.heap.size := by have := hb1.size; simp at this; omega
 have g0 : w1.heap[w.heap.size]? = some (.cells #[Ah va, Ah vb, Ah vc, Ah vd, Ah ve, Ah vf, Ah vg, Ah vh] 173 (0, 0)) :=
  (hb1.block _ (by simp; omega)).trans (heap_alloc2_old w _ _)
 have g1 : w1.heap[w.heap.size + 1]? = some (.cells #[.int .u32 0, .int .u32 0, .int .u32 0, .int .u32 0, .int .u32 0, .int .u32 0, .int .u32 0, .int .u32 0] 173 (0, 0)) :=
  (hb1.block _ (by simp)).trans (heap_alloc2_new w _ _)
 have hT1 : C6 w1 := HT.out.below hbs (Nat.le_refl _);clear hb1;have k0 : (w1.alloc (.cells ((CY s.data.toList).map Ah).toArray 231)).heap[w.heap.size]? = _ := (heap_alloc_old w1 _ (by omega)).trans g0
 have k1 : (w1.alloc (.cells ((CY s.data.toList).map Ah).toArray 231)).heap[w.heap.size + 1]? = _ := (heap_alloc_old w1 _ (by omega)).trans g1
 have k2 := heap_alloc_new w1 (.cells ((CY s.data.toList).map Ah).toArray 231);have kT := hT1.alloc (.cells ((CY s.data.toList).map Ah).toArray 231);have kb := hbs.alloc hbs.size (.cells ((CY s.data.toList).map Ah).toArray 231);clear g0 g1 hT1 hbs;generalize w1.alloc (.cells ((CY s.data.toList).map Ah).toArray 231) = w2 at k0 k1 k2 kT kb ⊢;generalize hW : w1.heap.size = bw at k2 hsz ⊢;clear hW;have x0 := cell_of_row w2 w.heap.size 0 _ _ _ k0;have x1 := cell_of_row w2 w.heap.size 1 _ _ _ k0;have x2 := cell_of_row w2 w.heap.size 2 _ _ _ k0;have x3 := cell_of_row w2 w.heap.size 3 _ _ _ k0;have x4 := cell_of_row w2 w.heap.size 4 _ _ _ k0;have x5 := cell_of_row w2 w.heap.size 5 _ _ _ k0;have x6 := cell_of_row w2 w.heap.size 6 _ _ _ k0;have x7 := cell_of_row w2 w.heap.size 7 _ _ _ k0;have K0 := Veil.mk k0;have K1 := Veil.mk k1;have K2 := Veil.mk k2;have KT := Veil.mk kT;have Kb := Veil.mk kb;clear k0 k1 k2 kT kb;go_wp2
 go_quiet (fail)
 go_wp2
 go_quiet (fail)
 clear x0 x1 x2 x3 x4 x5 x6 x7;go_wp2
 go_loopw [6, 7, 8, 9, 10, 11, 12, 13, 14, 15, 16, 35] (fun a b c d e f g h _ _ _ i wr => ∃ n r : Nat, n ≤ 64 ∧ i = .int .i64 n ∧ wr = w2.drewN r ∧ ∃ st : S8, st = Ia s.data.toList ⟨va, vb, vc, vd, ve, vf, vg, vh⟩ n ∧ a = Ah st.a ∧ b = Ah st.b ∧ c = Ah st.c ∧ d = Ah st.d ∧ e = Ah st.e ∧ f = Ah st.f ∧ g = Ah st.g ∧ h = Ah st.h) (fun _ _ _ _ _ _ _ _ _ _ _ i _ => 64 - (intOf i).toNat)
 case atStart => exact ⟨0, _, by omega, rfl, World.drewN_drewN _ _ _, _, rfl, rfl, rfl, rfl, rfl, rfl, rfl, rfl, rfl⟩
 case round =>
  obtain ⟨n, r, hn, rfl, rfl, ⟨sa, sb, sc, sd, se, sf, sg, sh⟩, hst, rfl, rfl, rfl, rfl, rfl, rfl, rfl, rfl⟩ := hrel;have Hst := Veil.mk hst; clear hst;by_cases hlt : n < 64
  ·have cK : (w2.drewN r).cell? ⟨1, n, none⟩ = some (Ah (Ej.getD n 0)) := KT.out.1 n hlt
   have cW : (w2.drewN r).cell? ⟨bw, n, none⟩ = some (Ah ((CY s.data.toList).getD n 0)) := by
    show w2.cell? _ = _
    rw [cell_of_row w2 bw n _ _ _ K2.out];simp [List.getD_eq_getElem?_getD, List.getElem?_eq_getElem (show n < (CY s.data.toList).length from by rw [Jf]; exact hlt)]
   generalize hk : Ej.getD n 0 = kn at cK;generalize hx : (CY s.data.toList).getD n 0 = xn at cW;have Hk := Veil.mk hk; clear hk;have Hx := Veil.mk hx; clear hx;generalize hwr : w2.drewN r = wr at cK cW ⊢;have Hwr := Veil.mk hwr; clear hwr;go_wp2
   go_quiet ((go_at_call 200; exact Calls.quiet_of_same ((NX _ _ _ (by omega) (by omega)).mono fun _ _ h => ⟨h.1, h.2.symm⟩)))
   go_wp2_with (go_at_call 200; refine (NX _ _ _ (by omega) (by omega)).mono ?_; rintro e w' ⟨rfl, rfl⟩)
   go_roundw
   case rel =>
    refine ⟨n + 1, _, by omega, by go_num, by rw [← Hwr.out]; exact World.drewN_drewN _ _ _, Jk kn xn ⟨sa, sb, sc, sd, se, sf, sg, sh⟩, ?_, ?_⟩
    ·rw [Ia, ← Hst.out, Hk.out, Hx.out]
    ·exact ⟨rfl, rfl, rfl, rfl, rfl, rfl, rfl, rfl⟩
   case measure => simp [intOf]; omega
  ·have hn64 : 64 ≤ n := by omega
   have hm : Fu ⟨va, vb, vc, vd, ve, vf, vg, vh⟩ s.data.toList = S8.add ⟨va, vb, vc, vd, ve, vf, vg, vh⟩ ⟨sa, sb, sc, sd, se, sf, sg, sh⟩ := by
    obtain rfl : n = 64 := by omega
    rw [Fu, ← Hst.out]
   have Hm := Veil.mk hm; clear hm hlt;have k0 : (w2.drewN r).heap[w.heap.size]? = _ := K0.out;have k1 : (w2.drewN r).heap[w.heap.size + 1]? = _ := K1.out;have kb := He Kb.out r;generalize w2.drewN r = wr at k0 k1 kb ⊢;have x0 := cell_of_row wr w.heap.size 0 _ _ _ k0;have x1 := cell_of_row wr w.heap.size 1 _ _ _ k0;have x2 := cell_of_row wr w.heap.size 2 _ _ _ k0;have x3 := cell_of_row wr w.heap.size 3 _ _ _ k0;have x4 := cell_of_row wr w.heap.size 4 _ _ _ k0;have x5 := cell_of_row wr w.heap.size 5 _ _ _ k0;have x6 := cell_of_row wr w.heap.size 6 _ _ _ k0;have x7 := cell_of_row wr w.heap.size 7 _ _ _ k0;have K1 := Veil.mk k1;have Kb := Veil.mk kb;clear k0 k1 kb;have Hi : Veil (some 8 = some [Ah (va + sa), Ah (vb + sb), Ah (vc + sc), Ah (vd + sd), Ah (ve + se), Ah (vf + sf), Ah (vg + sg), Ah (vh + sh)].length) := ⟨rfl⟩;go_wp2_with (refine Kz rfl _ (.tmp 4) (.tmp 130) rfl (w.heap.size + 1) rfl [Ah (va + sa), Ah (vb + sb), Ah (vc + sc), Ah (vd + sd), Ah (ve + se), Ah (vf + sf), Ah (vg + sg), Ah (vh + sh)] rfl K1.out (Gr.trans Hi.out) rfl (by simp [Value.oneCell', Ah]) ?_)
   refine bodyPost_ret (results_cell_row rfl _ _ (w.heap.size + 1) _ _ _ _ rfl (setRow_heap wr (w.heap.size + 1) _ _ _ _ K1.out) Tryz.underlying173 rfl (Gr.trans Hi.out)) rfl ?_
   exact ⟨by rw [Hm.out]; rfl, Nv Kb.out (by omega) _⟩
theorem F1 : ES Tryz.prog 163 5 1 1 := ES.mk' (z := .int .u8 0) Tryz.underlying163 (by kernel_rfl) rfl (by omega)
def lenOf : Value → Nat | .slice _ n _ => n | _ => 0
set_option maxHeartbeats 1000000 in
theorem ZcJ (s : ByteArray) (n : Int) (w : World) (hs : s.size ≤ 64) :
  Calls Tryz.prog 123 #[.string s, .int .i64 n] w fun e w' => e = .returned (.string ⟨(ending s.data.toList n).toArray⟩) ∧ Below w.heap.size w w' := by
 have hm : s.size ≤ maxLen := by unfold maxLen; omega
 go_enter Tryz.func123, Tryz.ntmps123
 go_wp2_with (first
  | (refine U9 w rfl _ _ (.tmp 8) rfl 5 s rfl Tryz.underlying9 Tryz.underlying163 Tryz.underlying5 hm (base := w.heap.size) (Nat.le_refl _) ?_; intro v0 w0 own0 gr0 hx; clear hx)
  | (at_builtin; refine Hp w0 rfl _ _ _ rfl F1 [.int .u8 128] own0 rfl rfl ?_ ?_ ?_ ?_ ?_))
 ·exact Gl rfl
 ·simp; omega
 ·simp; omega
 ·exact gr0.size
 intro v1 w1 own1 gr1;have hb1 : Below w.heap.size w w1 := FC ((Below.refl _ _).grown gr0 (Nat.le_refl _) (fun k hk => by cases hk)) gr1 own0 (Nat.le_refl _) gr0.size
 have own1' : Ap w1 w.heap.size 5 1 v1 ((CE s.data.toList 0).map w8) := by
  rw [show ((CE s.data.toList 0).map w8) = s.data.toList.map w8 ++ [.int .u8 128] from by simp [CE]; rfl]
  exact own1
 clear own0 gr0 gr1 own1;have hl : s.data.toList.length = s.size := by simp
 generalize hs0 : s.data.toList = l at own1' hl ⊢;have Hl := Veil.mk hl;have Hs0 := Veil.mk hs0;clear hl hs0;go_wp2
 go_loopw [5] (fun v wr => ∃ (N z : Nat) (A : Option Addr) (c : Nat), v = .slice A N c ∧ Veil (N = l.length + 1 + z) ∧ z ≤ Bw (l.length + 1) ∧ Ap wr w.heap.size 5 1 (.slice A N c) ((CE l z).map w8) ∧ Below w.heap.size w wr) (fun v _ => l.length + 1 + Bw (l.length + 1) - lenOf v)
 case atStart =>
  obtain ⟨A, c, rfl⟩ := own1'.len1;exact ⟨_, 0, A, c, rfl, ⟨by rw [List.length_map, Fb]⟩, Nat.zero_le _, own1', hb1⟩
 case round =>
  obtain ⟨N, z, A, c, rfl, HN, hz, hown, hb⟩ := hrel;have hzl := NM (l.length + 1);have hNs : N ≤ 200 := by have := HN.out; have := Hl.out; omega
  have hmod : ((N : Int) % 64 != 56) = decide (z < Bw (l.length + 1)) := by
   have h1 := NN (l.length + 1);have h2 := Qi (l.length + 1) z;rw [HN.out];by_cases hlt : z < Bw (l.length + 1)
   ·have := h2 hlt
    simp only [hlt, decide_true, bne_iff_ne];omega
   ·obtain rfl : z = Bw (l.length + 1) := by omega
    simp only [hlt, decide_false, bne_eq_false_iff_eq];omega
  have hle := hb.size;by_cases hlt : z < Bw (l.length + 1)
  ·have ht : ((N : Int) % 64 != 56) = true := by rw [hmod]; simpa using hlt
   clear hmod;go_wp2_with (at_builtin; refine Hp wr rfl _ _ _ rfl F1 [.int .u8 0] hown rfl rfl ?_ ?_ ?_ hle ?_; rotate_left 3; intro v' w' own' gr')
   rotate_left 1
   ·exact Gl rfl
   ·rw [List.length_map, Fb, ← HN.out]; simp; omega
   ·rw [List.length_map, Fb, ← HN.out]; simp; omega
   have hb' := FC hb gr' hown (Nat.le_refl _) hle;have own2 : Ap w' w.heap.size 5 1 v' ((CE l (z + 1)).map w8) := by rw [Ul, List.map_append]; exact own'
   clear own' gr' hown hb;go_wp2
   go_roundw
   obtain ⟨A', c', rfl⟩ := own2.len1;case rel => exact ⟨_, z + 1, A', c', rfl, ⟨by rw [List.length_map, Fb]⟩, by omega, own2, hb'⟩
   case measure =>
    obtain ⟨A', c', rfl⟩ := own2.len1;simp only [lenOf, List.length_map, Fb];have := HN.out;omega
  ·have ht : ((N : Int) % 64 != 56) = false := by rw [hmod]; simpa using hlt
   obtain rfl : z = Bw (l.length + 1) := by omega
   clear hmod;go_wp2
   go_loopw [5, 7] (fun v i wr => ∃ (M j : Nat) (A : Option Addr) (c : Nat), v = .slice A M c ∧ j ≤ 8 ∧ i = .int .i64 (56 - 8 * (j : Int)) ∧ Ap wr w.heap.size 5 1 (.slice A M c) ((CE l (Bw (l.length + 1)) ++ Ef (BitVec.ofInt 64 n * 8#64) j).map w8) ∧ Below w.heap.size w wr) (fun _ i _ => (intOf i + 8).toNat)
   case atStart => exact ⟨N, 0, A, c, rfl, by omega, rfl, by simpa [Ef] using hown, hb⟩
   case round =>
    obtain ⟨M, j, A', c', rfl, hj, rfl, hown, hb⟩ := hrel;have hle := hb.size;have hlen : (CE l (Bw (l.length + 1)) ++ Ef (BitVec.ofInt 64 n * 8#64) j).length ≤ 200 := by
     rw [List.length_append, Fb]
     have : (Ef (BitVec.ofInt 64 n * 8#64) j).length ≤ 8 := by simp [Ef, Ly]; omega
     have := Hl.out;omega
    by_cases hlt : j < 8
    ·have hge : (0 : Int) ≤ 56 - 8 * (j : Int) := by omega
     go_wp2_with (at_builtin; refine Hp wr rfl _ _ _ rfl F1 [_] hown rfl rfl ?_ ?_ ?_ hle ?_; rotate_left 3; intro v' w' own' gr')
     rotate_left 1
     ·exact Gl rfl
     iterate 2
      ·rw [List.length_map]; simp only [List.length_singleton]; omega
     have hb' := FC hb gr' hown (Nat.le_refl _) hle;have own2 : Ap w' w.heap.size 5 1 v' ((CE l (Bw (l.length + 1)) ++ Ef (BitVec.ofInt 64 n * 8#64) (j + 1)).map w8) := by
      rw [VA _ _ hlt, ← List.append_assoc, List.map_append]; exact own'
     clear own' gr' hown hb;obtain ⟨A2, c2, rfl⟩ := own2.len1;go_wp2
     go_roundw
     case rel => exact ⟨_, j + 1, A2, c2, rfl, by omega, by go_num, own2, hb'⟩
     case measure => simp [intOf]; omega
    ·obtain rfl : j = 8 := by omega
     have hc := L7 (P := Tryz.prog) wr 163 9 5 Tryz.underlying163 Tryz.underlying5 Tryz.underlying9 hown.rd;go_wp2
     go_ret
     exact ⟨by rw [Hs0.out]; rfl, hb⟩
theorem ZbE (st : S8) (j : Nat) (hj : j < 8) : ∀ W : World, (Instr.index 173 (.agg st.cells.toArray) (.int .i64 (j : Int))).run Tryz.prog W = .ok (Ah (st.list.getD j 0)) W := by
 intro W;rcases j with _ | _ | _ | _ | _ | _ | _ | _ | j
 all_goals first | omega | kernel_rfl
theorem SZ {w w1 : World} {g : Nat} {o : Obj} (hb : Below w.drew.heap.size w.drew w1) (hlt : g < w.heap.size) (h : w.heap[g]? = some o) : w1.heap[g]? = some o := (hb.block g hlt).trans h
set_option maxRecDepth 100000 in
set_option maxHeartbeats 400000 in
theorem YB (s : ByteArray) (w : World) (hs : s.size ≤ 9223372036854775807) (hT : C6 w) :
  Calls Tryz.prog 61 #[.string s] w fun e w' => e = .returned (.string ⟨(sha s.data.toList).toArray⟩) ∧ Below w.heap.size w w' := by
 have HT := Veil.mk hT;have HI : Veil (∀ j u, BA.cells[j]? = some u → w.cell? ⟨0, 0 + j, none⟩ = some u) := ⟨fun j u hu => by
  rw [Nat.zero_add];have hj : j < 8 := (List.getElem?_eq_some_iff.1 hu).1
  rw [hT.2 j hj];rw [← hu];rcases j with _ | _ | _ | _ | _ | _ | _ | _ | j
  all_goals first | omega | rfl⟩
 clear hT;have Hc8 : Veil (∀ (st : S8) j u, st.cells[j]? = some u → st.cells.toArray[0 + j]? = some u) := ⟨fun st j u hu => by simpa using hu⟩
 have Ho8 : Veil (∀ (st : S8), ∀ u ∈ st.cells, u.oneCell' = true) := ⟨fun st u hu => by
  simp only [S8.cells, List.mem_cons, List.not_mem_nil, or_false] at hu;rcases hu with rfl | rfl | rfl | rfl | rfl | rfl | rfl | rfl <;> rfl⟩
 go_enter Tryz.func61, Tryz.ntmps61
 go_wp2_with (first
  | (refine Za6 rfl _ (.global 0) rfl 0 0 rfl Tryz.underlying173 rfl BA.cells Gr HI.out ?_)
  | (refine QY _ rfl _ (.tmp 3) (.tmp 8) rfl rfl BA.cells rfl Gr rfl (Ho8.out _) ?_))
 have k0 := heap_alloc_new w (.cells BA.cells.toArray 173);have b0 := (Below.refl w.heap.size w).alloc (Nat.le_refl _) (.cells BA.cells.toArray 173);generalize w.alloc (.cells BA.cells.toArray 173) = w2 at k0 b0 ⊢;go_loopw [4] (fun r wr => ∃ (n : Nat) (x : ByteArray), r = .string x ∧ x.size ≤ 9223372036854775807 ∧ Veil (x.data.toList = s.data.toList.drop (64 * n)) ∧ 64 * n ≤ s.size ∧ wr.heap[w.heap.size]? = some (.cells (Bo s.data.toList BA n).cells.toArray 173 (0, 0)) ∧ Below w.heap.size w wr) (fun r _ => match r with | .string x => x.size | _ => 0)
 case atStart => exact ⟨0, s, rfl, hs, ⟨by simp⟩, by omega, k0, b0⟩
 case round =>
  obtain ⟨n, x, rfl, hx, Hx, hn, k, hb⟩ := hrel;have hxl : x.size = s.size - 64 * n := by have := congrArg List.length Hx.out; simpa using this
  have Hxl := Veil.mk hxl; clear hxl;have HTr := Veil.mk (HT.out.below hb (Nat.le_refl _));have K := Veil.mk k; clear k;have Hb := Veil.mk hb; clear hb;by_cases hlt : 64 ≤ x.size
  ·go_wp2
   have hgl := (Array.getElem?_eq_some_iff.1 K.out).1
   refine wp_region_still_tail 3 (by kernel_rfl) (by kernel_rfl) ?_
   simp only [List.take_succ_cons, List.take_zero, List.drop_succ_cons, List.drop_zero];refine QX rfl _ (.tmp 3) rfl w.heap.size 0 rfl K.out Tryz.underlying173 rfl (Bo s.data.toList BA n).cells (Gr.trans (congrArg some (IG _).symm)) (Hc8.out _) ?_
   repeat still_step
   refine wpStill_nil ?_
   change wpList _ _ _ _ _ wr.drew;go_wp2_with (first
    | (go_at_call 122; refine (SB (Bo s.data.toList BA n) _ _ (Q5 x hlt) HTr.out.drew).mono ?_; rintro e w1 ⟨rfl, hb1⟩; generalize hs2 : Fu (Bo s.data.toList BA n) (x.extract 0 64).data.toList = st2; have Hs2 := Veil.mk hs2; clear hs2; have hk1 := Veil.mk (SZ hb1 hgl K.out); have Hb1 := Veil.mk hb1; clear hb1)
    | (refine Kz rfl _ (.tmp 3) (.tmp 16) rfl w.heap.size rfl st2.cells rfl hk1.out (Gr.trans (congrArg some (IG st2).symm)) (U3 st2 _) (Ho8.out _) ?_))
   have hk := Veil.mk (setRow_heap w1 w.heap.size _ st2.cells.toArray _ _ hk1.out);have hbe := Veil.mk (Nv (Hb.out.drew.trans (Hb1.out.mono Hb.out.size)) (Nat.le_refl _) st2.cells.toArray);generalize w1.setRow w.heap.size st2.cells.toArray = w3 at hk hbe ⊢;go_roundw
   case rel =>
    have hx64 := Ux x x.size (Nat.le_refl _);refine ⟨n + 1, _, rfl, ?_, ⟨?_⟩, ?_, ?_, hbe.out⟩
    ·rw [ByteArray.size_extract]; omega
    ·rw [hx64, Hx.out, List.drop_drop]; congr 1
    ·have := Hxl.out; omega
    ·rw [Bo]
     rw [← Hx.out, ← QR, Hs2.out];exact hk.out
   case measure => simp only [ByteArray.size_extract]; omega
  ·have hnq : s.size / 64 = n := by have := Hxl.out; omega
   have Hnq := Veil.mk hnq; clear hnq;generalize hst : Bo s.data.toList BA n = st1;have Hst := Veil.mk hst; clear hst;go_wp2_with (go_at_call 123; refine (ZcJ x _ _ (by omega)).mono ?_; rintro e w1 ⟨rfl, hb1⟩)
   have hblk := Uk x.data.toList s.size;have htl := PG x.data.toList s.size;generalize hT : Sm.ending x.data.toList s.size = T at hblk htl ⊢;have HTl := Veil.mk hT; clear hT;have hk1 := Veil.mk ((hb1.block _ ((Array.getElem?_eq_some_iff.1 K.out).1)).trans K.out)
   have hb1' := Veil.mk (Hb.out.trans (hb1.mono Hb.out.size));have hTs : T.length ≤ 300 := by
    have := NM (x.data.toList.length + 1)
    have : x.data.toList.length = x.size := by simp
    omega
   clear hb1 htl;have Hblk := Veil.mk hblk; clear hblk;go_loopw [4] (fun r wr => ∃ (n : Nat) (x : ByteArray), r = .string x ∧ x.size ≤ 300 ∧ Veil (x.data.toList = T.drop (64 * n)) ∧ 64 * n ≤ T.length ∧ Veil (wr.heap[w.heap.size]? = some (.cells (Bo T st1 n).cells.toArray 173 (0, 0))) ∧ Veil (Below w.heap.size w wr)) (fun r _ => match r with | .string x => x.size | _ => 0)
   case atStart => exact ⟨0, _, rfl, by simpa [ByteArray.size] using hTs, ⟨by simp⟩, by omega, ⟨by rw [Bo, ← Hst.out]; exact hk1.out⟩, hb1'⟩
   case round =>
    obtain ⟨m, y, rfl, hy, Hy, hm, K, Hb⟩ := hrel;have hyl : y.size = T.length - 64 * m := by have := congrArg List.length Hy.out; simpa using this
    have Hyl := Veil.mk hyl; clear hyl;have HTr := Veil.mk (HT.out.below Hb.out (Nat.le_refl _));by_cases hlt : 0 < y.size
    ·have h64 : 64 ≤ y.size := by have := Hyl.out; have := Hblk.out; omega
     have hem := Zau hlt;have h64i : (64 : Int) ≤ y.size := by omega
     have hgl := (Array.getElem?_eq_some_iff.1 K.out).1
     go_wp2
     refine wp_region_still_tail 3 (by kernel_rfl) (by kernel_rfl) ?_
     simp only [List.take_succ_cons, List.take_zero, List.drop_succ_cons, List.drop_zero];refine QX rfl _ (.tmp 3) rfl w.heap.size 0 rfl K.out Tryz.underlying173 rfl (Bo T st1 m).cells (Gr.trans (congrArg some (IG _).symm)) (Hc8.out _) ?_
     repeat still_step
     refine wpStill_nil ?_
     change wpList _ _ _ _ _ wr.drew;go_wp2_with (first
      | (go_at_call 122; refine (SB (Bo T st1 m) _ _ (Q5 y h64) HTr.out.drew).mono ?_; rintro e w1 ⟨rfl, hb1⟩; generalize hs2 : Fu (Bo T st1 m) (y.extract 0 64).data.toList = st2; have Hs2 := Veil.mk hs2; clear hs2; have hk1 := Veil.mk (SZ hb1 hgl K.out); have Hb1 := Veil.mk hb1; clear hb1)
      | (refine Kz rfl _ (.tmp 3) (.tmp 30) rfl w.heap.size rfl st2.cells rfl hk1.out (Gr.trans (congrArg some (IG st2).symm)) (U3 st2 _) (Ho8.out _) ?_))
     have hk := Veil.mk (setRow_heap w1 w.heap.size _ st2.cells.toArray _ _ hk1.out);have hbe := Veil.mk (Nv (Hb.out.drew.trans (Hb1.out.mono Hb.out.size)) (Nat.le_refl _) st2.cells.toArray);generalize w1.setRow w.heap.size st2.cells.toArray = w3 at hk hbe ⊢;go_roundw
     case rel =>
      have hx64 := Ux y y.size (Nat.le_refl _);refine ⟨m + 1, _, rfl, ?_, ⟨?_⟩, ?_, ⟨?_⟩, hbe⟩
      ·rw [ByteArray.size_extract]; omega
      ·rw [hx64, Hy.out, List.drop_drop]; congr 1
      ·have := Hyl.out; omega
      ·rw [Bo]
       rw [← Hy.out, ← QR, Hs2.out];exact hk.out
     case measure => simp only [ByteArray.size_extract]; omega
    ·have hem := ZcM hlt
     have hmq : T.length / 64 = m := by have := Hyl.out; omega
     have hfin : Jd s.data.toList = Bo T st1 m := by
      have hsl : s.data.toList.length = s.size := by simp
      rw [Jd, hsl, Hnq.out, Hst.out, ← hmq, ← HTl.out, Hx.out]
     have Hfin := Veil.mk hfin; clear hfin hmq;have hgl := (Array.getElem?_eq_some_iff.1 K.out).1
     generalize hst : Bo T st1 m = st at K Hfin;clear hst;have H32 : Veil ((32 : Nat) ≤ maxLen) := ⟨by unfold maxLen; omega⟩
     have hmk : ∀ W : World, (Instr.makeSlice 163 (.int .i64 0) (.int .i64 32)).run Tryz.prog W = .ok (.slice (some ⟨W.heap.size, 0, none⟩) 0 32) (W.alloc (.cells #[.int .u8 0, .int .u8 0, .int .u8 0, .int .u8 0, .int .u8 0, .int .u8 0, .int .u8 0, .int .u8 0, .int .u8 0, .int .u8 0, .int .u8 0, .int .u8 0, .int .u8 0, .int .u8 0, .int .u8 0, .int .u8 0, .int .u8 0, .int .u8 0, .int .u8 0, .int .u8 0, .int .u8 0, .int .u8 0, .int .u8 0, .int .u8 0, .int .u8 0, .int .u8 0, .int .u8 0, .int .u8 0, .int .u8 0, .int .u8 0, .int .u8 0, .int .u8 0] 5)) := fun _ => by kernel_rfl
     go_wp2_with (refine SR rfl _ (.tmp 3) rfl w.heap.size 0 rfl ((heap_alloc_old _ _ hgl).trans K.out) Tryz.underlying173 rfl st.cells (Gr.trans (congrArg some (IG _).symm)) (Hc8.out _) ?_)
     have own0 : Ap (wr.alloc (.cells #[.int .u8 0, .int .u8 0, .int .u8 0, .int .u8 0, .int .u8 0, .int .u8 0, .int .u8 0, .int .u8 0, .int .u8 0, .int .u8 0, .int .u8 0, .int .u8 0, .int .u8 0, .int .u8 0, .int .u8 0, .int .u8 0, .int .u8 0, .int .u8 0, .int .u8 0, .int .u8 0, .int .u8 0, .int .u8 0, .int .u8 0, .int .u8 0, .int .u8 0, .int .u8 0, .int .u8 0, .int .u8 0, .int .u8 0, .int .u8 0, .int .u8 0, .int .u8 0] 5)) w.heap.size 5 1 (.slice (some ⟨wr.heap.size, 0, none⟩) 0 32) [] := Ap.made Hb.out.size H32.out rfl;have hb3 := Hb.out.alloc Hb.out.size (.cells #[.int .u8 0, .int .u8 0, .int .u8 0, .int .u8 0, .int .u8 0, .int .u8 0, .int .u8 0, .int .u8 0, .int .u8 0, .int .u8 0, .int .u8 0, .int .u8 0, .int .u8 0, .int .u8 0, .int .u8 0, .int .u8 0, .int .u8 0, .int .u8 0, .int .u8 0, .int .u8 0, .int .u8 0, .int .u8 0, .int .u8 0, .int .u8 0, .int .u8 0, .int .u8 0, .int .u8 0, .int .u8 0, .int .u8 0, .int .u8 0, .int .u8 0, .int .u8 0] 5);go_loopw [5, 7, 33] (fun v _ i wx => ∃ j : Nat, j ≤ 8 ∧ i = .int .i64 j ∧ Ap wx w.heap.size 5 1 v (((st.list.take j).flatMap Fe).map w8) ∧ Below w.heap.size w wx) (fun _ _ i _ => 8 - (intOf i).toNat)
     case atStart => exact ⟨0, by omega, rfl, own0, hb3⟩
     case round =>
      obtain ⟨j, hj, rfl, hown, hbx⟩ := hrel;have hle := hbx.size;by_cases hlt : j < 8
      ·have hi := ZbE st j hlt
       have hlen : ((st.list.take j).flatMap Fe).length ≤ 32 := by
        rcases j with _ | _ | _ | _ | _ | _ | _ | _ | j
        all_goals first | (simp [S8.list, Fe]; done) | omega
       generalize hxj : st.list.getD j 0 = xj at hi;have Hxj := Veil.mk hxj; clear hxj;have Hlen := Veil.mk hlen; clear hlen;go_wp2_with (at_builtin; refine Hp wr rfl _ _ _ rfl F1 [_, _, _, _] hown rfl rfl ?_ ?_ ?_ hle ?_; rotate_left 3; intro v' w' own' gr')
       rotate_left 1
       ·exact KQ (Fe xj)
       iterate 2
        ·rw [List.length_map]; have := Hlen.out; simp only [List.length_cons, List.length_nil]; omega
       have own2 : Ap w' w.heap.size 5 1 v' (((st.list.take (j + 1)).flatMap Fe).map w8) := by
        rw [Zdm _ _ hlt, List.map_append, Hxj.out]; exact own'
       have hb' := FC hbx gr' hown (Nat.le_refl _) hle;clear own' gr' hown hbx;go_wp2
       go_roundw
       case rel => exact ⟨j + 1, by omega, by go_num, own2, hb'⟩
       case measure => simp [intOf]; omega
      ·obtain rfl : j = 8 := by omega
       have hc := L7 (P := Tryz.prog) wr 163 9 5 Tryz.underlying163 Tryz.underlying5 Tryz.underlying9 hown.rd;go_wp2
       go_ret
       exact ⟨by rw [sha, Hfin.out]; rfl, hbx⟩
theorem Zas (s : ByteArray) (w : World) (hs : s.size ≤ 9223372036854775807) :
  Calls Tryz.prog 311 #[.string s] w fun e w' => e = .returned (.int .i64 (num s.data.toList)) ∧ w = w' := by
 go_enter Tryz.func311, Tryz.ntmps311
 go_wp2
 go_loop [3, 4, 5] (fun r _ i => ∃ k : Nat, k ≤ 8 ∧ i = .int .i64 k ∧ r = Aq (BitVec.ofNat 64 (BL s.data.toList k))) (fun _ _ i => 8 - (intOf i).toNat)
 case atStart => exact ⟨0, by omega, rfl, rfl⟩
 case round =>
  obtain ⟨k, hk, rfl, rfl⟩ := hrel;by_cases hlt : k < 8
  ·have st := Sa s.data.toList k hlt
   have sk := Zap s.data.toList k hlt;have ek : ∀ (h : k < s.size), s.data.toList.getD k 0 = s[k] := by
    intro h;rw [List.getD_eq_getElem?_getD, List.getElem?_eq_getElem (by simpa using h)]; rfl
   generalize hn : BitVec.ofNat 64 (BL s.data.toList k) = n at st sk;have Hn := Veil.mk hn;have St := Veil.mk st;have Sk := Veil.mk sk;have Ek := Veil.mk ek;clear hn st sk ek;by_cases hl : k < s.size
   ·go_wp2
    go_round
    case rel => exact ⟨k + 1, by omega, by go_num, by rw [← St.out, Ek.out hl]⟩
    case measure => simp [intOf]; omega
   ·go_wp2
    go_round
    case rel => exact ⟨k + 1, by omega, by go_num, by rw [← Sk.out (by simp; omega)]⟩
    case measure => simp [intOf]; omega
  ·obtain rfl : k = 8 := by omega
   have e := Zar s.data.toList;generalize hn : BitVec.ofNat 64 (BL s.data.toList 8) = n at e ⊢;clear hn;have E := Veil.mk e; clear e;go_wp2
   go_ret
   exact ⟨Zy E.out, rfl⟩
@[go_sem] theorem Zby {P : Program} (w : World) (t : TypeId) (s : ByteArray) (b : UInt8) (h : P.underlying t = some .string) :
  (Instr.index t (.string s) (w8 b)).run P w = if hi : b.toNat < s.size then .ok (w8 (s[b.toNat]'hi)) w else (boundsPanic .u8 b.toNat s.size .index).run P w := by
 show (Instr.index t (.string s) (.int .u8 _)).run P w = _
 rw [run_index_string w t s .u8 _ h];by_cases hi : b.toNat < s.size
 ·rw [dif_pos hi, dif_pos ⟨by omega, by omega⟩]; rfl
 ·rw [dif_neg hi, dif_neg (by omega)]
theorem ZbG (b : UInt8) (h : b.toNat < (⟨#[48, 49, 50, 51, 52, 53, 54, 55, 56, 57, 97, 98, 99, 100, 101, 102]⟩ : ByteArray).size) : (⟨#[48, 49, 50, 51, 52, 53, 54, 55, 56, 57, 97, 98, 99, 100, 101, 102]⟩ : ByteArray)[b.toNat] = Iw b := by
 unfold Iw digs;rw [List.getD_eq_getElem?_getD, List.getElem?_eq_getElem (by exact h)]
 rfl
theorem Tg (w : World) (b : UInt8) (h : b.toNat < 16) : (Instr.index 9 (.string ⟨#[48, 49, 50, 51, 52, 53, 54, 55, 56, 57, 97, 98, 99, 100, 101, 102]⟩) (w8 b)).run Tryz.prog w = .ok (w8 (Iw b)) w := by
 rw [Zby w _ _ _ Tryz.underlying9, dif_pos (by exact h), ZbG b h]
set_option maxHeartbeats 1000000 in
theorem ZbJ (s : ByteArray) (w : World) (hs : s.size ≤ 70368744177664) :
  Calls Tryz.prog 187 #[.string s] w fun e w' => e = .returned (.string ⟨(hex s.data.toList).toArray⟩) ∧ Below w.heap.size w w' := by
 go_enter Tryz.func187, Tryz.ntmps187
 go_wp2_with (refine ZaH w rfl _ _ _ rfl F1 rfl (2 * (s.size : Int)) rfl ?_ ?_ ?_ (Nat.le_refl _) ?_; rotate_left 3; intro v0 w0 own0 gr0)
 rotate_left 1
 ·omega
 ·omega
 ·omega
 have hb0 : Below w.heap.size w w0 := (Below.refl _ _).grown gr0 (Nat.le_refl _) (fun k hk => by cases hk)
 clear gr0;go_loopw [3, 4, 11] (fun v _ i wr => ∃ k : Nat, k ≤ s.size ∧ i = .int .i64 k ∧ Ap wr w.heap.size 5 1 v ((hex (s.data.toList.take k)).map w8) ∧ Below w.heap.size w wr) (fun _ _ i _ => s.size - (intOf i).toNat)
 case atStart => exact ⟨0, by omega, rfl, own0, hb0⟩
 case round =>
  obtain ⟨k, hk, rfl, hown, hb⟩ := hrel;have hle := hb.size;by_cases hlt : k < s.size
  ·have hts := XU s k hlt
   have hlen : (hex (s.data.toList.take k)).length ≤ 2 * k := by rw [ZbI]; have := List.length_take_le k s.data.toList; omega
   have Hts := Veil.mk hts; clear hts;have Hlen := Veil.mk hlen; clear hlen;have d1 := fun W => Tg W (Fm s[k] 4) (Yv _)
   have d2 := fun W => Tg W (s[k] &&& 15) (Zep _)
   have hki : (k : Int) < s.size := by omega
   go_wp2
   have ho := KQ (hex2 s[k]);have hl1 : (((hex (s.data.toList.take k)).map w8).length + ((hex2 s[k]).map w8).length) * 1 ≤ 140737488355328 := by
    rw [List.length_map, List.length_map]; have := Hlen.out; simp only [hex2, List.length_cons, List.length_nil]; omega
   have hl2 : ((hex (s.data.toList.take k)).map w8).length + ((hex2 s[k]).map w8).length ≤ 140737488355328 := by omega
   have HO := Veil.mk ho;have HL1 := Veil.mk hl1;have HL2 := Veil.mk hl2;clear ho hl1 hl2;go_region_law (refine N9 wr.drew rfl (.tmp 14) (.tmp 25) _ rfl F1 [w8 (Iw (Fm s[k] 4)), w8 (Iw (s[k] &&& 15))] hown.drew rfl rfl HO.out HL1.out HL2.out hle ?_; intro v' w' own' gr')
   all_goals
    have own2 : Ap w' w.heap.size 5 1 v' ((hex (s.data.toList.take (k + 1))).map w8) := by
     rw [Hts.out, ZbH, List.map_append]; exact own'
    have hb' := FC hb.drew gr' hown.drew (Nat.le_refl _) hle;clear own' gr';go_wp2
    go_roundw
    case rel => exact ⟨k + 1, by omega, by go_num, own2, hb'⟩
    case measure => simp [intOf]; omega
  ·have e := XX s k hlt
   rw [e] at hown;have hc := L7 (P := Tryz.prog) wr 163 9 5 Tryz.underlying163 Tryz.underlying5 Tryz.underlying9 hown.rd;clear e;generalize hhx : hex s.data.toList = hx at hc;have Hhx := Veil.mk hhx; clear hhx;go_wp2
   go_ret
   exact ⟨by rw [Hhx.out]; rfl, hb⟩
end
end
section
section
open Go
section
variable {P : Program} {t : TypeId}
theorem ZR (a b : BitVec 32) (h : b.toNat ≠ 0) : binOp .quo t (Ah a) (Ah b) = pure (Ah (a / b)) := by
 show binOp .quo t (.int .u32 _) (.int .u32 _) = _
 rw [binOp_quo];have ha := a.isLt;have hz' : ¬ (b.toNat : Int) = 0 := by omega
 unfold Ah;rw [BitVec.toNat_udiv];have hd : a.toNat / b.toNat < 4294967296 := Nat.lt_of_le_of_lt (Nat.div_le_self _ _) ha;simp only [Op.intDiv, if_neg hz', IntKind.wrap_u32'];congr 2
 rw [← Int.ofNat_tdiv];generalize a.toNat / b.toNat = q at hd ⊢;omega
theorem ZC (a b : BitVec 32) (h : b.toNat ≠ 0) : binOp .rem t (Ah a) (Ah b) = pure (Ah (a % b)) := by
 show binOp .rem t (.int .u32 _) (.int .u32 _) = _
 rw [binOp_rem];have hz' : ¬ (b.toNat : Int) = 0 := by omega
 unfold Ah;rw [BitVec.toNat_umod];simp only [Op.intDiv, if_neg hz'];congr 2
@[go_sem] theorem ZfV (a : BitVec 32) (n : Nat) (h : n < 4294967296) (h0 : 0 < n) : binOp .quo t (Ah a) (.int .u32 (no_index (OfNat.ofNat n))) = pure (Ah (a / (BitVec.ofNat 32 n))) := by
 rw [Dn n h, ZR]; rw [BitVec.toNat_ofNat, Nat.mod_eq_of_lt h]; omega
@[go_sem] theorem ZfT (a : BitVec 32) (n : Nat) (h : n < 4294967296) (h0 : 0 < n) : binOp .rem t (Ah a) (.int .u32 (no_index (OfNat.ofNat n))) = pure (Ah (a % (BitVec.ofNat 32 n))) := by
 rw [Dn n h, ZC]; rw [BitVec.toNat_ofNat, Nat.mod_eq_of_lt h]; omega
end
namespace Sm
open Tryz
theorem Zc (x : BitVec 32) (n : Int) (h0 : 0 < n) (h : n < 32) : (x >>> n.toNat ||| x <<< (32 - n).toNat) = CZ x n.toNat := by
 rw [CZ, BitVec.or_comm, show (32 - n).toNat = 32 - n.toNat from by omega]
theorem Zaq (l : List UInt8) : 32 * (BL l 7 : Int) + ((l.getD 7 0).toNat : Int) / 8 = (num l : Int) := by
 have h : BL l 8 = 256 * BL l 7 + (l.getD 7 0).toNat := rfl;unfold num;rw [h];generalize BL l 7 = n;generalize (l.getD 7 0).toNat = b;omega
theorem Xt (a b c d : Nat) (ha : a < 256) (hb : b < 256) (hc : c < 256) (hd : d < 256) :
  (((a * 2 ^ 24 % 2 ^ 32 ||| b * 2 ^ 16 % 2 ^ 32) ||| c * 2 ^ 8 % 2 ^ 32) ||| d) = a * 16777216 + b * 65536 + c * 256 + d := by
 rw [Nat.mod_eq_of_lt (show a * 2 ^ 24 < 2 ^ 32 from by omega), Nat.mod_eq_of_lt (show b * 2 ^ 16 < 2 ^ 32 from by omega), Nat.mod_eq_of_lt (show c * 2 ^ 8 < 2 ^ 32 from by omega)]
 rw [nat_join 24 (a * 2 ^ 24) (b * 2 ^ 16) (by omega) (by omega), nat_join 16 (a * 2 ^ 24 + b * 2 ^ 16) (c * 2 ^ 8) (by omega) (by omega), nat_join 8 (a * 2 ^ 24 + b * 2 ^ 16 + c * 2 ^ 8) d (by omega) (by omega)]
theorem ON (x : BitVec 32) (n : Nat) (hx : x.toNat < 256) (hn : n ≤ 16777216) : (x * BitVec.ofNat 32 n).toNat = x.toNat * n := by
 rw [BitVec.toNat_mul, BitVec.toNat_ofNat, Nat.mod_eq_of_lt (show n < 2 ^ 32 from by omega)]
 have h : x.toNat * n ≤ 255 * 16777216 := Nat.mul_le_mul (by omega) hn
 exact Nat.mod_eq_of_lt (by omega)
theorem P4 (x y : BitVec 32) (h : x.toNat + y.toNat < 4294967296) : (x + y).toNat = x.toNat + y.toNat := by
 rw [BitVec.toNat_add];exact Nat.mod_eq_of_lt (by omega)
theorem Xs (a b c d : UInt8) : bw a * 16777216#32 + bw b * 65536#32 + bw c * 256#32 + bw d = JV a b c d := by
 have q : ∀ x : UInt8, (bw x).toNat = x.toNat := fun x => by
  have := x.toNat_lt;unfold bw;rw [BitVec.toNat_setWidth, UInt8.toNat_toBitVec, Nat.mod_eq_of_lt (by omega)]
 have ha := a.toNat_lt;have hb := b.toNat_lt;have hc := c.toNat_lt;have hd := d.toNat_lt;apply BitVec.eq_of_toNat_eq
 have m1 := ON (bw a) 16777216 (by rw [q]; exact ha) (by omega)
 have m2 := ON (bw b) 65536 (by rw [q]; exact hb) (by omega)
 have m3 := ON (bw c) 256 (by rw [q]; exact hc) (by omega)
 rw [q] at m1 m2 m3;have s1 := P4 (bw a * 16777216#32) (bw b * 65536#32) (by rw [m1, m2]; omega)
 have s2 := P4 (bw a * 16777216#32 + bw b * 65536#32) (bw c * 256#32) (by rw [s1, m1, m2, m3]; omega)
 have s3 := P4 (bw a * 16777216#32 + bw b * 65536#32 + bw c * 256#32) (bw d) (by rw [s2, s1, m1, m2, m3, q]; omega)
 rw [s3, s2, s1, m1, m2, m3, q];unfold JV;rw [BitVec.toNat_or, BitVec.toNat_or, BitVec.toNat_or, BitVec.toNat_shiftLeft, BitVec.toNat_shiftLeft, BitVec.toNat_shiftLeft, Nat.shiftLeft_eq, Nat.shiftLeft_eq, Nat.shiftLeft_eq, q, q, q, q];exact (Xt _ _ _ _ ha hb hc hd).symm
def E1 (l : List UInt8) : List UInt8 := ending l l.length
theorem ZeE (l : List UInt8) (st : S8) (n m : Nat) : Bo l st (n + m) = Bo (l.drop (64 * n)) (Bo l st n) m := by
 induction m with
 | zero => rfl
 | succ m ih => rw [← Nat.add_assoc, Bo, Bo, ih, List.drop_drop, show 64 * n + 64 * m = 64 * (n + m) from by omega]
theorem V0 (l r : List UInt8) (st : S8) (n : Nat) (h : 64 * n ≤ l.length) : Bo (l ++ r) st n = Bo l st n := by
 induction n with
 | zero => rfl
 | succ n ih =>
  rw [Bo, Bo, ih (by omega), List.drop_append_of_le_length (by omega), List.take_append_of_le_length (by rw [List.length_drop]; omega)]
theorem Zae (l : List UInt8) : E1 l = l.take (64 * (l.length / 64)) ++ ending (l.drop (64 * (l.length / 64))) l.length := by
 unfold E1 ending;have hz : Bw ((l.drop (64 * (l.length / 64))).length + 1) = Bw (l.length + 1) := by
  rw [List.length_drop];unfold Bw;omega
 rw [hz];simp only [← List.append_assoc, List.take_append_drop]
theorem Zad (l : List UInt8) : Bo (E1 l) BA ((E1 l).length / 64) = Jd l := by
 unfold Jd;have hl : (l.take (64 * (l.length / 64))).length = 64 * (l.length / 64) := by rw [List.length_take]; omega
 have hs := Zae l;have hlen : (E1 l).length / 64 = l.length / 64 + (ending (l.drop (64 * (l.length / 64))) l.length).length / 64 := by
  rw [hs, List.length_append, hl];omega
 rw [hlen, ZeE];have e1 : (E1 l).drop (64 * (l.length / 64)) = ending (l.drop (64 * (l.length / 64))) l.length := by
  rw [hs];exact List.drop_left' hl
 have e2 : Bo (E1 l) BA (l.length / 64) = Bo l BA (l.length / 64) := by
  rw [hs, V0 _ _ _ _ (by omega)]
  have e := V0 (l.take (64 * (l.length / 64))) (l.drop (64 * (l.length / 64))) BA (l.length / 64) (by rw [hl]; exact Nat.le_refl _)
  rw [List.take_append_drop] at e;exact e.symm
 rw [e1, e2]
def FP (st : S8) (k : Nat) : List UInt8 := (List.range k).map fun i => wb (st.list.getD (i / 4) 0 >>> (24 - 8 * (i % 4)))
theorem Zaf (st : S8) (k : Nat) : FP st (k + 1) = FP st k ++ [wb (st.list.getD (k / 4) 0 >>> (24 - 8 * (k % 4)))] := by simp [FP, List.range_succ]
theorem Zag (st : S8) (k : Nat) : (FP st k).length = k := by simp [FP]
theorem Zah (st : S8) : FP st 32 = st.list.flatMap Fe := by
 obtain ⟨a, b, c, d, e, f, g, h⟩ := st;have z : ∀ x : BitVec 32, x >>> 0 = x := fun x => by simp
 show [wb (a >>> 24), wb (a >>> 16), wb (a >>> 8), wb (a >>> 0), wb (b >>> 24), wb (b >>> 16), wb (b >>> 8), wb (b >>> 0), wb (c >>> 24), wb (c >>> 16), wb (c >>> 8), wb (c >>> 0), wb (d >>> 24), wb (d >>> 16), wb (d >>> 8), wb (d >>> 0), wb (e >>> 24), wb (e >>> 16), wb (e >>> 8), wb (e >>> 0), wb (f >>> 24), wb (f >>> 16), wb (f >>> 8), wb (f >>> 0), wb (g >>> 24), wb (g >>> 16), wb (g >>> 8), wb (g >>> 0), wb (h >>> 24), wb (h >>> 16), wb (h >>> 8), wb (h >>> 0)] = _
 simp only [z];rfl
end Sm
end
namespace Sm
open Tryz
def FD (r s : List (BitVec 32)) : Nat → List (BitVec 32)
 | 0 => r
 | k + 1 => (FD r s k).set k ((FD r s k).getD k 0 + s.getD k 0)
theorem Zeu (r s : List (BitVec 32)) (k : Nat) : (FD r s k).length = r.length := by
 induction k with
 | zero => rfl
 | succ k ih => rw [FD, List.length_set, ih]
theorem Zev (r s : S8) : (FD r.list s.list 8).map Ah = (s.add r).cells := by
 obtain ⟨a, b, c, d, e, f, g, h⟩ := r;obtain ⟨a', b', c', d', e', f', g', h'⟩ := s;show [Ah (a + a'), Ah (b + b'), Ah (c + c'), Ah (d + d'), Ah (e + e'), Ah (f + f'), Ah (g + g'), Ah (h + h')] = [Ah (a' + a), Ah (b' + b), Ah (c' + c), Ah (d' + d), Ah (e' + e), Ah (f' + f), Ah (g' + g), Ah (h' + h)]
 rw [BitVec.add_comm a, BitVec.add_comm b, BitVec.add_comm c, BitVec.add_comm d, BitVec.add_comm e, BitVec.add_comm f, BitVec.add_comm g, BitVec.add_comm h]
theorem ZdR (s : S8) : s.cells = s.list.map Ah := rfl
theorem Iq (s : S8) : s.list.length = 8 := rfl
theorem L4 : Ej.length = 64 := rfl
end Sm
end
end Go.Proofs.YtiidnoejnphocaaGreatDoor
