/- A part. -/
import Derived.Test.YtldohjjoicmfpaaGreatDoorKr5
import Derived.Test.YtldohjjoicmfpaaGreatDoorProg
import Derived.KernelRfl
set_option linter.unusedSectionVars false
set_option linter.unusedVariables false
set_option linter.unusedSimpArgs false
namespace Go.Proofs.YtldohjjoicmfpaaGreatDoor
section
namespace Wl
open Tryz
open Go Co
theorem RZ : ∀ (l : By) (i n m : Nat) (r : By), Dw l i n = some (m, r) → ∃ k, m = n + k * 2 ^ (7 * i) ∧ l = num k ++ r ∧ (0 < i → 0 < k)
 | [], i, n, m, r, h => by simp [Dw] at h
 | d :: l, i, n, m, r, h => by
  rw [Jc] at h;have hd := d.toNat_lt;split at h
  ·cases h
  split at h
  ·rename_i h9 h1
   obtain ⟨k, h2, h3, h4⟩ := RZ l (i + 1) _ m r h;have hk := h4 (Nat.succ_pos _);refine ⟨(d.toNat - 128) + k * 128, ?_, ?_, fun _ => by omega⟩
   ·rw [h2, Nat.add_mul, Nat.mul_assoc, show (128 : Nat) = 2 ^ 7 from rfl, ← Nat.pow_add, show 7 + 7 * i = 7 * (i + 1) by omega]
    omega
   ·rw [Ic (by omega), show (d.toNat - 128 + k * 128) / 128 = k by omega, show 128 + (d.toNat - 128 + k * 128) % 128 = d.toNat by omega, UInt8.ofNat_toNat, h3, List.cons_append]
  ·rename_i h9 h1
   split at h
   ·cases h
   ·rename_i h2
    simp only [Option.some.injEq, Prod.mk.injEq] at h;refine ⟨d.toNat, h.1.symm, ?_, fun h0 => by omega⟩
    rw [F7 (by omega), UInt8.ofNat_toNat, h.2]
    rfl
theorem ZbO {b : By} {n : Nat} {x : R} (h : R.num ⟨b, false⟩ = (n, x)) (hx : x.bad = false) : b = num n ++ x.rest := by
 unfold R.num at h;split at h
 ·rename_i m r hr
  simp only [Prod.mk.injEq] at h;obtain ⟨k, h1, h2, _⟩ := RZ _ _ _ _ _ hr;obtain ⟨rfl, rfl⟩ := h;simp only [Nat.mul_zero, Nat.pow_zero, Nat.mul_one, Nat.zero_add] at h1;subst h1;exact h2
 ·simp only [Prod.mk.injEq] at h
  rw [← h.2] at hx;cases hx
def ck (s : By) : By := [UInt8.ofNat ((Sm.crc s).toNat % 256), UInt8.ofNat ((Sm.crc s).toNat / 256 % 256), UInt8.ofNat ((Sm.crc s).toNat / 65536 % 256), UInt8.ofNat ((Sm.crc s).toNat / 16777216 % 256)]
theorem G4 (s : By) : (ck s).length = 4 := rfl
def AK (s : By) : By := num s.length ++ ck s ++ s
def Ar (l : List By) : By := (l.map AK).flatten
theorem FA (s : By) (l : List By) : Ar (s :: l) = AK s ++ Ar l := rfl
theorem ZaM (l m : List By) : Ar (l ++ m) = Ar l ++ Ar m := by simp [Ar]
theorem ZaL : Ar [] = [] := rfl
theorem J8 (l : List By) (s : By) : Ar (l ++ [s]) = Ar l ++ AK s := by simp [Ar]
theorem J9 (s : By) : 0 < (AK s).length := by
 have := Mq s.length;simp only [AK, List.length_append];omega
def step (x : R) : Option (By × R) :=
 if (x.num.2.take 4).1.length ≠ 4 ∨ 1048576 < x.num.1 then none else
 if ((x.num.2.take 4).2.take x.num.1).1.length ≠ x.num.1 ∨ ck ((x.num.2.take 4).2.take x.num.1).1 ≠ (x.num.2.take 4).1 then none else
 some ((x.num.2.take 4).2.take x.num.1)
def DO (l : List By) : Prop := ∀ s ∈ l, s.length ≤ 1048576
theorem LY (s t : By) (h : s.length ≤ 1048576) : step ⟨AK s ++ t, false⟩ = some (s, ⟨t, false⟩) := by
 have h1 : R.num ⟨AK s ++ t, false⟩ = (s.length, ⟨ck s ++ (s ++ t), false⟩) := by
  rw [AK, List.append_assoc, List.append_assoc];exact Ie _ _ _ (by omega)
 have h2 : R.take ⟨ck s ++ (s ++ t), false⟩ 4 = (ck s, ⟨s ++ t, false⟩) := ND (ck s) (s ++ t);unfold step;rw [h1];simp only
 rw [h2];simp only
 rw [ND s t];have c1 : ¬ ((ck s).length ≠ 4 ∨ 1048576 < s.length) := by rw [G4]; omega
 have c2 : ¬ (s.length ≠ s.length ∨ ck s ≠ ck s) := by simp
 rw [if_neg c1, if_neg c2]
theorem QK {x y : R} {n : Nat} {s : By} (h : x.take n = (s, y)) (hs : s.length = n) (hn : 0 < n ∨ x.bad = false) : x.bad = false ∧ x.rest = s ++ y.rest ∧ y.bad = false := by
 unfold R.take at h;split at h
 ·rename_i hc
  simp only [Prod.mk.injEq] at h;obtain ⟨rfl, rfl⟩ := h;simp only [List.length_nil] at hs;rcases hc with hc | hc
  ·rcases hn with hn | hn
   ·omega
   ·rw [hc] at hn; cases hn
  ·omega
 ·rename_i hc
  simp only [Prod.mk.injEq] at h;obtain ⟨rfl, rfl⟩ := h;have hb : x.bad = false := by cases hx : x.bad <;> simp_all
  exact ⟨hb, (List.take_append_drop n x.rest).symm, hb⟩
theorem step_inv {b s : By} {x : R} (h : step ⟨b, false⟩ = some (s, x)) : b = AK s ++ x.rest ∧ s.length ≤ 1048576 ∧ x.bad = false := by
 unfold step at h;split at h
 ·cases h
 rename_i h1
 split at h
 ·cases h
 rename_i h2
 simp only [Option.some.injEq] at h;rw [h] at h2;simp only [not_or, ne_eq, Decidable.not_not] at h1 h2;have e1 : R.num ⟨b, false⟩ = ((R.num ⟨b, false⟩).1, (R.num ⟨b, false⟩).2) := rfl;generalize (R.num ⟨b, false⟩).1 = n at *;generalize (R.num ⟨b, false⟩).2 = y at *;have e2 : y.take 4 = ((y.take 4).1, (y.take 4).2) := rfl;generalize (y.take 4).1 = c at *;generalize (y.take 4).2 = z at *;obtain ⟨a1, a2, a3⟩ := QK e2 h1.1 (.inl (by omega))
 obtain ⟨b1, b2, b3⟩ := QK h h2.1 (.inr a3);have := ZbO e1 a1;refine ⟨?_, by omega, b3⟩
 rw [this, a2, b2, AK, h2.1, h2.2];simp
def Er : Nat → By → List By × By
 | 0, b => ([], b)
 | f + 1, b => match step ⟨b, false⟩ with
  | none => ([], b)
  | some (s, x) => (s :: (Er f x.rest).1, (Er f x.rest).2)
def AD (b : By) : List By := (Er b.length b).1
def Fv (b : By) : By := (Er b.length b).2
def stuck (b : By) : Prop := step ⟨b, false⟩ = none
theorem NI : stuck [] := by
 have : R.num ⟨[], false⟩ = (0, fail) := rfl;unfold stuck step;rw [this];simp only
 rfl
theorem Rg : ∀ (f : Nat) (b : By), b.length ≤ f → b = Ar (Er f b).1 ++ (Er f b).2 ∧ DO (Er f b).1 ∧ stuck (Er f b).2
 | 0, b, h => by
  have : b = [] := List.eq_nil_of_length_eq_zero (by omega)
  subst this;exact ⟨rfl, fun s hs => (by cases hs), NI⟩
 | f + 1, b, h => by
  unfold Er;split
  ·rename_i hs
   exact ⟨rfl, fun s hs => (by cases hs), hs⟩
  ·rename_i s x hs
   obtain ⟨h1, h2, h3⟩ := step_inv hs;have hp := J9 s;have hl : x.rest.length ≤ f := by
    have := congrArg List.length h1;rw [List.length_append] at this;omega
   obtain ⟨h4, h5, h6⟩ := Rg f x.rest hl;refine ⟨?_, fun t ht => ?_, h6⟩
   ·simp only [FA, List.append_assoc]
    rw [← h4];exact h1
   ·rcases List.mem_cons.1 ht with rfl | ht
    ·exact h2
    ·exact h5 t ht
theorem Rh : ∀ (l : List By) (t : By) (f : Nat), DO l → stuck t → (Ar l ++ t).length ≤ f → Er f (Ar l ++ t) = (l, t)
 | [], t, f, _, ht, _ => by
  rw [ZaL, List.nil_append];cases f with
  | zero => rfl
  | succ f => unfold Er; rw [show step ⟨t, false⟩ = none from ht]
 | s :: l, t, f, hl, ht, hf => by
  have hp := J9 s;cases f with
  | zero => simp only [FA, List.length_append] at hf; omega
  | succ f =>
   unfold Er;rw [FA, List.append_assoc, LY s _ (hl s (by simp))]
   simp only
   rw [Rh l t f (fun x hx => hl x (by simp [hx])) ht (by simp only [FA, List.length_append] at hf ⊢; omega)]
theorem N1 {l : List By} {t : By} (hl : DO l) (ht : stuck t) : AD (Ar l ++ t) = l ∧ Fv (Ar l ++ t) = t := by
 unfold AD Fv;rw [Rh l t _ hl ht (Nat.le_refl _)];exact ⟨rfl, rfl⟩
theorem NZ (b : By) : b = Ar (AD b) ++ Fv b ∧ DO (AD b) ∧ stuck (Fv b) := Rg b.length b (Nat.le_refl _)
theorem Oj {l m : List By} (h : DO l) (h' : DO m) : DO (l ++ m) := fun s hs => (List.mem_append.1 hs).elim (h s) (h' s)
theorem ZU {l : List By} (hl : DO l) (b : By) : AD (Ar l ++ b) = l ++ AD b ∧ Fv (Ar l ++ b) = Fv b := by
 obtain ⟨h1, h2, h3⟩ := NZ b;have := N1 (Oj hl h2) h3;rw [ZaM, List.append_assoc, ← h1] at this;exact this
theorem YJ {s p q : By} (h : AK s = p ++ q) (hs : s.length ≤ 1048576) (hq : q ≠ []) : stuck p := by
 unfold stuck;cases hst : step ⟨p, false⟩ with
 | none => rfl
 | some r =>
  obtain ⟨s', x⟩ := r;obtain ⟨h1, h2, h3⟩ := step_inv hst;have e1 := LY s [] hs;rw [List.append_nil, h, h1, List.append_assoc, LY s' _ h2] at e1;simp only [Option.some.injEq, Prod.mk.injEq, R.mk.injEq, and_true] at e1;exact absurd (List.append_eq_nil_iff.1 e1.2).2 hq
theorem U7 : ∀ (l : List By) (n : Nat), DO l → n ≤ (Ar l).length → ∃ k p, k ≤ l.length ∧ (Ar l).take n = Ar (l.take k) ++ p ∧ stuck p ∧ (Ar (l.take k)).length ≤ n
 | [], n, _, h => ⟨0, [], Nat.le_refl _, by simp [Ar], NI, Nat.zero_le _⟩
 | s :: l, n, hl, h => by
  by_cases hn : n < (AK s).length
  ·refine ⟨0, (AK s).take n, Nat.zero_le _, ?_, ?_, by simp [Ar]⟩
   ·rw [FA, List.take_append_of_le_length (by omega)]; rfl
   ·refine YJ (s := s) (q := (AK s).drop n) (List.take_append_drop n _).symm (hl s (by simp)) fun e => ?_
    have := congrArg List.length e;simp only [List.length_drop, List.length_nil] at this;omega
  ·obtain ⟨k, p, h1, h2, h3, h4⟩ := U7 l (n - (AK s).length) (fun x hx => hl x (by simp [hx])) (by rw [FA, List.length_append] at h; omega)
   refine ⟨k + 1, p, by simpa using h1, ?_, h3, ?_⟩
   ·rw [FA, List.take_append, List.take_of_length_le (by omega), h2, List.take_succ_cons, FA, List.append_assoc]
   ·rw [List.take_succ_cons, FA, List.length_append]; omega
end Wl
end
section
namespace Dm
open Tryz
open Go
structure Fl where
  data : List UInt8
  dur : Nat
structure Dk where
  fs : Nat → Fl
  down : Bool
  lost : Nat
  armed : Nat
  keep : List Int
def Fl.none : Fl := ⟨[], 0⟩
def dk0 : Dk := ⟨fun _ => Fl.none, false, 0, 0, []⟩
def upd (fs : Nat → Fl) (i : Nat) (f : Fl) : Nat → Fl := fun j => if j = i then f else fs j
theorem upd_same (fs : Nat → Fl) (i : Nat) (f : Fl) : upd fs i f i = f := if_pos rfl
theorem upd_ne (fs : Nat → Fl) {i j : Nat} (h : j ≠ i) (f : Fl) : upd fs i f j = fs j := if_neg h
def kn (f : Int) : Bool := decide (0 ≤ f) && decide (f < 8)
def Fl.stay (f : Fl) (k : Int) : Nat := f.dur + min (f.data.length - f.dur) k.toNat
def Fl.crash (f : Fl) (k : Int) : Fl := ⟨f.data.take (f.stay k), f.stay k⟩
def Fl.trunc (f : Fl) (n : Nat) : Fl := ⟨f.data.take n, min f.dur n⟩
def crash (d : Dk) (keep : List Int) : Dk := if d.down then d else ⟨fun i => (d.fs i).crash (keep.getD i 0), true, d.lost, 0, []⟩
def strikes (d : Dk) : Bool × Dk := if d.armed = 0 then (false, d) else (decide (d.armed = 1), { d with armed := d.armed - 1 })
def struck (d : Dk) (e : Int) : Int × Dk := if (strikes d).1 then (8, crash (strikes d).2 (strikes d).2.keep) else (e, (strikes d).2)
def appendD (d : Dk) (f : Int) (s : List UInt8) : Int × Dk :=
  if d.down then (8, d) else
  if !kn f then struck d 1 else
  if 16777216 < (d.fs f.toNat).data.length + s.length then struck d 7 else
  struck { d with fs := upd d.fs f.toNat ⟨(d.fs f.toNat).data ++ s, (d.fs f.toNat).dur⟩ } 0
def beginD (d : Dk) (l : List Int) : Int × Dk := if d.down then (8, d) else struck d (if l.all kn then 0 else 1)
def flushD (d : Dk) (f : Int) : Int × Dk :=
  let b := beginD d [f]
  if b.1 ≠ 0 then b else
  if 0 < b.2.lost then (18, { b.2 with lost := b.2.lost - 1 }) else
  (0, { b.2 with fs := upd b.2.fs f.toNat ⟨(b.2.fs f.toNat).data, (b.2.fs f.toNat).data.length⟩ })
def size (d : Dk) (f : Int) : Nat := if kn f then (d.fs f.toNat).data.length else 0
def cutD (d : Dk) (f n : Int) : Int × Dk :=
  let b := beginD d [f]
  if b.1 ≠ 0 then b else
  if n < 0 ∨ (size b.2 f : Int) < n then (1, b.2) else
  (0, { b.2 with fs := upd b.2.fs f.toNat ((b.2.fs f.toNat).trunc n.toNat) })
def lose (d : Dk) (n : Int) : Dk := { d with lost := n.toNat }
def bring (d : Dk) : Dk := { d with down := false }
def peek (d : Dk) (f : Int) : List UInt8 × Int := if d.down then ([], 8) else if kn f then ((d.fs f.toNat).data, 0) else ([], 1)
structure Fl.Ok (f : Fl) : Prop where
  dur : f.dur ≤ f.data.length
  len : f.data.length ≤ 16777216
structure Ok (d : Dk) : Prop where
  fs : ∀ i, (d.fs i).Ok
  lost : d.lost < 9223372036854775808
  armed : d.armed < 9223372036854775808
theorem Fl.none_ok : Fl.none.Ok := ⟨Nat.le_refl _, Nat.zero_le _⟩
theorem dk0_ok : Ok dk0 := ⟨fun _ => Fl.none_ok, by decide, by decide⟩
theorem Fl.stay_le {f : Fl} (h : f.Ok) (k : Int) : f.stay k ≤ f.data.length := by have := h.dur; unfold Fl.stay; omega
theorem Fl.crash_ok {f : Fl} (h : f.Ok) (k : Int) : (f.crash k).Ok := by
  have h1 := Fl.stay_le h k;have h2 := h.len;exact ⟨by unfold Fl.crash; simp only [List.length_take]; omega, by unfold Fl.crash; simp only [List.length_take]; omega⟩
theorem Fl.trunc_ok {f : Fl} (h : f.Ok) (n : Nat) : (f.trunc n).Ok := by
  have h1 := h.dur;have h2 := h.len;exact ⟨by unfold Fl.trunc; simp only [List.length_take]; omega, by unfold Fl.trunc; simp only [List.length_take]; omega⟩
theorem Lj {fs : Nat → Fl} (h : ∀ i, (fs i).Ok) (i : Nat) {f : Fl} (hf : f.Ok) : ∀ j, (upd fs i f j).Ok := by
  intro j;unfold upd;split
  · exact hf
  · exact h j
theorem crash_ok {d : Dk} (h : Ok d) (keep : List Int) : Ok (crash d keep) := by
  unfold crash;split
  · exact h
  · exact ⟨fun i => Fl.crash_ok (h.fs i) _, h.lost, by show (0 : Nat) < _; omega⟩
theorem IX {d : Dk} (h : Ok d) : Ok (strikes d).2 := by
  unfold strikes;split
  · exact h
  · exact ⟨h.fs, h.lost, by have := h.armed; show d.armed - 1 < _; omega⟩
theorem LU {d : Dk} (h : Ok d) (e : Int) : Ok (struck d e).2 := by
  unfold struck;split
  · exact crash_ok (IX h) _
  · exact IX h
theorem Wk {d : Dk} (h : Ok d) (f : Int) (s : List UInt8) : Ok (appendD d f s).2 := by
  unfold appendD;split
  · exact h
  split
  · exact LU h _
  split
  · exact LU h _
  · refine LU (d := { d with fs := upd d.fs f.toNat ⟨(d.fs f.toNat).data ++ s, (d.fs f.toNat).dur⟩ }) ⟨Lj h.fs _ ⟨?_, ?_⟩, h.lost, h.armed⟩ _
    · have := (h.fs f.toNat).dur; simp only [List.length_append]; omega
    · simp only [List.length_append]; omega
theorem M6 {d : Dk} (h : Ok d) (l : List Int) : Ok (beginD d l).2 := by
  unfold beginD;split
  · exact h
  · exact LU h _
theorem flush_ok {d : Dk} (h : Ok d) (f : Int) : Ok (flushD d f).2 := by
  have hb := M6 h [f];unfold flushD;simp only
  split
  · exact hb
  split
  · exact ⟨hb.fs, by have := hb.lost; show _ - 1 < _; omega, hb.armed⟩
  · exact ⟨Lj hb.fs _ ⟨Nat.le_refl _, (hb.fs _).len⟩, hb.lost, hb.armed⟩
theorem Pp {d : Dk} (h : Ok d) (f n : Int) : Ok (cutD d f n).2 := by
  have hb := M6 h [f];unfold cutD;simp only
  split
  · exact hb
  split
  · exact hb
  · exact ⟨Lj hb.fs _ (Fl.trunc_ok (hb.fs _) _), hb.lost, hb.armed⟩
theorem lose_ok {d : Dk} (h : Ok d) (n : Int) (hn : n ≤ 9223372036854775807) : Ok (lose d n) := ⟨h.fs, by show n.toNat < _; omega, h.armed⟩
theorem bring_ok {d : Dk} (h : Ok d) : Ok (bring d) := ⟨h.fs, h.lost, h.armed⟩
end Dm
end
section
namespace Wl
open Tryz
open Go Co Dm
def BG (d : Dk) (f : Int) : Int × Dk := if size d (f + 1) = 0 then (0, d) else cutD d (f + 1) 0
def Bw (d : Dk) (f : Int) : Int × Dk := if (Ar (AD (peek d f).1)).length < (peek d f).1.length then cutD d f ((Ar (AD (peek d f).1)).length : Int) else (0, d)
def AU (d : Dk) (f : Int) : Int × Dk :=
 if (peek d f).2 ≠ 0 then ((peek d f).2, d) else
 if (Bw d f).1 ≠ 0 then Bw d f else
 if (BG (Bw d f).2 f).1 ≠ 0 then BG (Bw d f).2 f else
 flushD (BG (Bw d f).2 f).2 f
def Bv (d : Dk) (f : Int) (s : By) : Int × Dk := if 1048576 < s.length then (7, d) else appendD d f (AK s)
end Wl
end
section
namespace Wl
open Tryz
open Go Co
theorem Yz {l : List By} (hl : DO l) (n : Nat) (hn : n ≤ (Ar l).length) : (∃ r, l = AD ((Ar l).take n) ++ r) ∧ (Ar (AD ((Ar l).take n))).length ≤ n := by
 obtain ⟨k, p, h1, h2, h3, h4⟩ := U7 l n hl hn;have hk : DO (l.take k) := fun s hs => hl s (List.mem_of_mem_take hs)
 rw [h2, (N1 hk h3).1];exact ⟨⟨l.drop k, (List.take_append_drop k l).symm⟩, h4⟩
end Wl
end
section
namespace Wl
open Tryz
open Go Co Dm
structure Calm (d : Dk) : Prop where
 down : d.down = false
 armed : d.armed = 0
 lost : d.lost = 0
theorem UZ : Calm dk0 := ⟨rfl, rfl, rfl⟩
section
variable {d : Dk} {n : Nat}
theorem Ji (hn : n < 8) : kn (n : Int) = true := by simp [kn]; omega
theorem ZeG (h : Calm d) : strikes d = (false, d) := by unfold strikes; rw [if_pos h.armed]
theorem Vy (h : Calm d) (e : Int) : struck d e = (e, d) := by unfold struck; rw [ZeG h]; rfl
theorem VD (h : Calm d) {l : List Int} (hl : l.all kn = true) : beginD d l = (0, d) := by
 unfold beginD; rw [h.down, Vy h, hl]; rfl
theorem Jz (h : Calm d) (fs : Nat → Fl) : Calm { d with fs := fs } := ⟨h.down, h.armed, h.lost⟩
theorem ZeK (h : Calm d) (hn : n < 8) {s : By} (hs : (d.fs n).data.length + s.length ≤ 16777216) : appendD d (n : Int) s = (0, { d with fs := upd d.fs n ⟨(d.fs n).data ++ s, (d.fs n).dur⟩ }) := by
 unfold appendD;rw [if_neg (by rw [h.down]; decide), if_neg (by rw [Ji hn]; decide)]
 simp only [Int.toNat_natCast];rw [if_neg (by omega)]
 exact Vy (Jz h _) _
theorem VB (h : Calm d) (hn : n < 8) : flushD d (n : Int) = (0, { d with fs := upd d.fs n ⟨(d.fs n).data, (d.fs n).data.length⟩ }) := by
 unfold flushD;rw [VD h (by simp [Ji hn])]
 simp [h.lost]
theorem VC (h : Calm d) (hn : n < 8) {k : Nat} (hk : k ≤ (d.fs n).data.length) : cutD d (n : Int) (k : Int) = (0, { d with fs := upd d.fs n ((d.fs n).trunc k) }) := by
 unfold cutD;rw [VD h (by simp [Ji hn])]
 have hsz : size d (n : Int) = (d.fs n).data.length := by unfold size; rw [if_pos (Ji hn)]; simp
 simp only [ne_eq, not_true_eq_false, if_false, hsz, Int.toNat_natCast];rw [if_neg (by omega)]
theorem ZeH (hn : n < 8) : size d (n : Int) = (d.fs n).data.length := by unfold size; rw [if_pos (Ji hn)]; simp
theorem Vz (h : Calm d) (hn : n < 8) : peek d (n : Int) = ((d.fs n).data, 0) := by
 unfold peek; rw [h.down, Ji hn]; simp
theorem ZeJ (h : Calm d) (hn : n + 1 < 8) : ∃ d', BG d (n : Int) = (0, d') ∧ Calm d' ∧ (d'.fs (n + 1)).data = [] ∧ (Ok d → (d'.fs (n + 1)).dur = 0) ∧ (∀ i, i ≠ n + 1 → d'.fs i = d.fs i) := by
 have e : ((n : Int) + 1) = ((n + 1 : Nat) : Int) := by omega
 unfold BG;rw [e, ZeH hn];by_cases h0 : (d.fs (n + 1)).data.length = 0
 ·rw [if_pos h0]
  exact ⟨d, rfl, h, List.eq_nil_of_length_eq_zero h0, fun ho => by have := (ho.fs (n + 1)).dur; omega, fun _ _ => rfl⟩
 ·rw [if_neg h0]
  have := VC h hn (k := 0) (Nat.zero_le _);refine ⟨_, this, Jz h _, ?_, fun _ => ?_, fun i hi => upd_ne _ hi _⟩
  ·show (upd _ _ _ _).data = []
   rw [upd_same]; simp [Fl.trunc]
  ·show (upd _ _ _ _).dur = 0
   rw [upd_same]; simp [Fl.trunc]
theorem VA (h : Calm d) (hn : n + 1 < 8) : ∃ d', AU d (n : Int) = (0, d') ∧ Calm d' ∧ d'.fs n = ⟨Ar (AD (d.fs n).data), (Ar (AD (d.fs n).data)).length⟩ ∧ (d'.fs (n + 1)).data = [] ∧ (∀ i, i ≠ n → i ≠ n + 1 → d'.fs i = d.fs i) := by
 unfold AU;have hsp := (NZ (d.fs n).data).1;have ht : ∃ d1, Bw d (n : Int) = (0, d1) ∧ Calm d1 ∧ (d1.fs n).data = Ar (AD (d.fs n).data) ∧ (∀ i, i ≠ n → d1.fs i = d.fs i) := by
  unfold Bw;rw [Vz h (by omega)]
  simp only
  have hl := congrArg List.length hsp;rw [List.length_append] at hl;split
  ·rename_i hlt
   refine ⟨_, VC h (by omega) (by omega), Jz h _, ?_, fun i hi => upd_ne _ hi _⟩
   show (upd _ _ _ _).data = _
   rw [upd_same];show (d.fs n).data.take _ = _
   have := List.take_left' (l₁ := Ar (AD (d.fs n).data)) (l₂ := Fv (d.fs n).data) (i := (Ar (AD (d.fs n).data)).length) rfl;rwa [← hsp] at this
  ·rename_i hlt
   refine ⟨d, rfl, h, ?_, fun _ _ => rfl⟩
   have : Fv (d.fs n).data = [] := List.eq_nil_of_length_eq_zero (by omega)
   rw [this, List.append_nil] at hsp;exact hsp
 obtain ⟨d1, e1, h1, h2, h3⟩ := ht;obtain ⟨d2, e2, h4, h5, _, h6⟩ := ZeJ h1 hn;rw [Vz h (by omega), e1]
 simp only [ne_eq, not_true_eq_false, if_false];rw [e2];simp only [not_true_eq_false, if_false];refine ⟨_, VB h4 (by omega), Jz h4 _, ?_, ?_, fun i hi hi' => ?_⟩
 ·show upd _ _ _ _ = _
  rw [upd_same, h6 n (by omega), h2]
 ·show (upd _ _ _ _).data = _
  rw [upd_ne _ (by omega), h5]
 ·show upd _ _ _ _ = _
  rw [upd_ne _ hi, h6 i hi', h3 i hi]
theorem ZeL (h : Calm d) (hn : n < 8) {s : By} (hs : s.length ≤ 1048576) (hb : (d.fs n).data.length + (AK s).length ≤ 16777216) : Bv d (n : Int) s = (0, { d with fs := upd d.fs n ⟨(d.fs n).data ++ AK s, (d.fs n).dur⟩ }) := by
 unfold Bv;rw [if_neg (by omega), ZeK h hn hb]
theorem VE (h : Calm d) (hn : n < 8) {s : By} (hs : s.length ≤ 1048576) (hb : (d.fs n).data.length + (AK s).length ≤ 16777216) : ∃ d', Bv d (n : Int) s = (0, d') ∧ Calm d' ∧ d'.fs n = ⟨(d.fs n).data ++ AK s, (d.fs n).dur⟩ ∧ ∀ i, i ≠ n → d'.fs i = d.fs i :=
 ⟨_, ZeL h hn hs hb, Jz h _, upd_same _ _ _, fun _ hi => upd_ne _ hi _⟩
theorem ZeI (h : Calm d) (hn : n < 8) : ∃ d', flushD d (n : Int) = (0, d') ∧ Calm d' ∧ d'.fs n = ⟨(d.fs n).data, (d.fs n).data.length⟩ ∧ ∀ i, i ≠ n → d'.fs i = d.fs i :=
 ⟨_, VB h hn, Jz h _, upd_same _ _ _, fun _ hi => upd_ne _ hi _⟩
theorem Vr {f : Int} (h : Ok d) : Ok (BG d f).2 := by
 unfold BG; split
 ·exact h
 ·exact Pp h _ _
theorem Qy {f : Int} (h : Ok d) : Ok (Bw d f).2 := by
 unfold Bw; split
 ·exact Pp h _ _
 ·exact h
theorem SB {f : Int} (h : Ok d) : Ok (AU d f).2 := by
 have h1 := Qy (f := f) h;have h2 := Vr (f := f) h1;unfold AU; split
 ·exact h
 split
 ·exact h1
 split
 ·exact h2
 ·exact flush_ok h2 _
theorem Zfl {f : Int} {s : By} (h : Ok d) : Ok (Bv d f s).2 := by
 unfold Bv; split
 ·exact h
 ·exact Wk h _ _
end
end Wl
end
section
namespace Wl
open Tryz
open Go Co Dm
def Iq (b : By) : By × Nat := match step ⟨b, false⟩ with
 | none => ([], 0)
 | some (s, _) => (s, (AK s).length)
theorem Uf {b : By} (h : step ⟨b, false⟩ = none) : Iq b = ([], 0) := by unfold Iq; rw [h]
theorem Ue {b s : By} {x : R} (h : step ⟨b, false⟩ = some (s, x)) : Iq b = (s, (AK s).length) := by unfold Iq; rw [h]
theorem Zc9 (b : By) : Iq b =
  if 1048576 < (R.num ⟨b, false⟩).1 ∨ (R.num ⟨b, false⟩).2.rest.length < 4 ∨ (R.num ⟨b, false⟩).2.rest.length - 4 < (R.num ⟨b, false⟩).1 then ([], 0)
  else if AK ((b.take (b.length - (R.num ⟨b, false⟩).2.rest.length + 4 + (R.num ⟨b, false⟩).1)).drop (b.length - (R.num ⟨b, false⟩).2.rest.length + 4)) = b.take (b.length - (R.num ⟨b, false⟩).2.rest.length + 4 + (R.num ⟨b, false⟩).1)
   then ((b.take (b.length - (R.num ⟨b, false⟩).2.rest.length + 4 + (R.num ⟨b, false⟩).1)).drop (b.length - (R.num ⟨b, false⟩).2.rest.length + 4), b.length - (R.num ⟨b, false⟩).2.rest.length + 4 + (R.num ⟨b, false⟩).1)
   else ([], 0) := by
 have hle : (R.num ⟨b, false⟩).2.rest.length ≤ b.length := Cq ⟨b, false⟩;cases h : step ⟨b, false⟩ with
 | some r =>
  obtain ⟨s, x⟩ := r;rw [Ue h];obtain ⟨h1, h2, _⟩ := step_inv h;have hn : R.num ⟨b, false⟩ = (s.length, ⟨ck s ++ (s ++ x.rest), false⟩) := by
   rw [h1, AK, List.append_assoc, List.append_assoc];exact Ie _ _ _ (by omega)
  have hr : (AK s).length = (num s.length).length + 4 + s.length := by
   simp only [AK, List.length_append, G4]
  have hb : b.length = (AK s).length + x.rest.length := by rw [h1, List.length_append]
  rw [hn];simp only [List.length_append, G4];rw [if_neg (by omega)]
  have he : b.length - (4 + (s.length + x.rest.length)) + 4 + s.length = (AK s).length := by omega
  have he2 : b.length - (4 + (s.length + x.rest.length)) + 4 = (num s.length ++ ck s).length := by
   rw [List.length_append, G4]; omega
  rw [he, he2];have ht : b.take (AK s).length = AK s := by rw [h1, List.take_left']; rfl
  have hd : (AK s).drop (num s.length ++ ck s).length = s := by rw [AK, List.drop_left']; rfl
  rw [ht, hd, if_pos rfl]
 | none =>
  rw [Uf h];generalize (R.num ⟨b, false⟩).1 = n at *;generalize (R.num ⟨b, false⟩).2.rest.length = left at *;by_cases h1 : 1048576 < n ∨ left < 4 ∨ left - 4 < n
  ·rw [if_pos h1]
  rw [if_neg h1];by_cases h2 : AK ((b.take (b.length - left + 4 + n)).drop (b.length - left + 4)) = b.take (b.length - left + 4 + n)
  ·exfalso
   have h3 : b = AK ((b.take (b.length - left + 4 + n)).drop (b.length - left + 4)) ++ b.drop (b.length - left + 4 + n) := by
    rw [h2, List.take_append_drop]
   have h4 : ((b.take (b.length - left + 4 + n)).drop (b.length - left + 4)).length ≤ 1048576 := by
    rw [List.length_drop, List.length_take]; omega
   have h5 := LY _ (b.drop (b.length - left + 4 + n)) h4;rw [← h3, h] at h5;cases h5
  ·rw [if_neg h2]
end Wl
end
section
namespace Pe
open Tryz
open Go
set_option maxRecDepth 100000
theorem LP :
 AS prog 3 = (.int .i64) ∧
 AA prog 3 = some (1, false) ∧
 BE prog 3 = some [.it .i64 0] ∧
 AS prog 4 = .bool ∧
 AA prog 4 = some (1, false) ∧
 AS prog 5 = (.int .u8) ∧
 BE prog 5 = some [.it .u8 0] := by and_intros <;> kernel_rfl
theorem LN :
 AS prog 9 = .str ∧
 AA prog 9 = some (1, false) ∧
 BE prog 9 = some [(.st [])] := by and_intros <;> kernel_rfl
theorem LB :
 AA prog 22 = some (1, false) ∧
 B2 prog 22 = some (60, 49, true) ∧
 AA prog 23 = some (1, false) ∧
 B2 prog 23 = some (44, 4, true) ∧
 AA prog 25 = some (4, true) ∧
 Al prog 25 0 = some (0, 1, false) ∧
 Al prog 25 1 = some (1, 1, false) ∧
 Al prog 25 2 = some (2, 1, false) ∧
 Al prog 25 3 = some (3, 1, false) := by and_intros <;> kernel_rfl
theorem Ls :
 AS prog 29 = .other ∧
 AA prog 29 = some (2, true) ∧
 BE prog 29 = some [.it .i64 0, .it .i64 0] ∧
 strOf prog 29 = some ([(0, 1), (1, 1)], [.it .i64 0, .it .i64 0]) ∧
 Al prog 29 0 = some (0, 1, false) ∧
 Al prog 29 1 = some (1, 1, false) ∧
 FN prog 29 = some [(3, 0, 1, false), (3, 1, 1, false)] ∧
 Program.eqGuardType prog (Program.depth prog) 29 = false ∧
 AS prog 31 = .ptr ∧
 AA prog 31 = some (1, false) ∧
 AS prog 33 = .ptr ∧
 AA prog 33 = some (1, false) ∧
 AS prog 35 = .ptr := by and_intros <;> kernel_rfl
theorem Lr :
 AS prog 39 = .ptr ∧
 AA prog 42 = some (1, false) ∧
 B2 prog 42 = some (3, 1, false) ∧
 El prog 42 = some (3, 1, 8) ∧
 AA prog 44 = some (4, true) ∧
 BE prog 44 = some [.it .i64 0, .it .i64 0, .it .i64 0, (.sl Mode.full [])] ∧
 Al prog 44 0 = some (0, 1, false) ∧
 Al prog 44 1 = some (1, 1, false) ∧
 Al prog 44 2 = some (2, 1, false) ∧
 Al prog 44 3 = some (3, 1, false) := by and_intros <;> kernel_rfl
theorem Lq :
 AA prog 45 = some (1, false) ∧
 B2 prog 45 = some (9, 1, false) ∧
 El prog 45 = some (9, 1, 16) ∧
 AS prog 47 = .other ∧
 AA prog 47 = some (3, true) ∧
 BE prog 47 = some [(.st []), (.st []), (.st [])] ∧
 strOf prog 47 = some ([(0, 1), (1, 1), (2, 1)], [(.st []), (.st []), (.st [])]) ∧
 Al prog 47 0 = some (0, 1, false) ∧
 Al prog 47 1 = some (1, 1, false) ∧
 Al prog 47 2 = some (2, 1, false) ∧
 FN prog 47 = some [(9, 0, 1, false), (9, 1, 1, false), (9, 2, 1, false)] ∧
 Program.eqGuardType prog (Program.depth prog) 47 = false ∧
 AA prog 48 = some (1, false) ∧
 B2 prog 48 = some (153, 5, true) ∧
 El prog 48 = some (153, 5, 64) ∧
 AS prog 50 = .other ∧
 AA prog 50 = some (2, true) ∧
 BE prog 50 = some [.it .i64 0, .it .i64 0] ∧
 strOf prog 50 = some ([(0, 1), (1, 1)], [.it .i64 0, .it .i64 0]) := by and_intros <;> kernel_rfl
theorem Lp :
 Al prog 50 0 = some (0, 1, false) ∧
 Al prog 50 1 = some (1, 1, false) ∧
 FN prog 50 = some [(3, 0, 1, false), (3, 1, 1, false)] ∧
 Program.eqGuardType prog (Program.depth prog) 50 = false ∧
 AA prog 52 = some (20, true) ∧
 BE prog 52 = some [(.st []), .it .i64 0, (.st []), .it .i64 0, .it .i64 0, (.st []), (.st []), .it .i64 0, (.st []), (.sl Mode.full []), (.st []), (.st []), (.st []), (.st []), .it .i64 0, (.sl Mode.full []), .it .i64 0, .it .i64 0, .it .i64 0, .it .i64 0] ∧
 strOf prog 52 = some ([(0, 1), (1, 1), (2, 1), (3, 1), (4, 1), (5, 1), (6, 1), (7, 1), (8, 1), (9, 1), (10, 1), (11, 3), (14, 1), (15, 1), (16, 1), (17, 1), (18, 2)], [(.st []), .it .i64 0, (.st []), .it .i64 0, .it .i64 0, (.st []), (.st []), .it .i64 0, (.st []), (.sl Mode.full []), (.st []), (.st []), (.st []), (.st []), .it .i64 0, (.sl Mode.full []), .it .i64 0, .it .i64 0, .it .i64 0, .it .i64 0]) ∧
 Al prog 52 0 = some (0, 1, false) ∧
 Al prog 52 1 = some (1, 1, false) ∧
 Al prog 52 2 = some (2, 1, false) ∧
 Al prog 52 3 = some (3, 1, false) ∧
 Al prog 52 4 = some (4, 1, false) ∧
 Al prog 52 5 = some (5, 1, false) ∧
 Al prog 52 6 = some (6, 1, false) ∧
 Al prog 52 7 = some (7, 1, false) ∧
 Al prog 52 8 = some (8, 1, false) := by and_intros <;> kernel_rfl
theorem Lo :
 Al prog 52 9 = some (9, 1, false) ∧
 Al prog 52 10 = some (10, 1, false) ∧
 Al prog 52 11 = some (11, 3, true) ∧
 Al prog 52 12 = some (14, 1, false) ∧
 Al prog 52 13 = some (15, 1, false) ∧
 Al prog 52 14 = some (16, 1, false) ∧
 Al prog 52 15 = some (17, 1, false) ∧
 Al prog 52 16 = some (18, 2, true) ∧
 AS prog 54 = .other ∧
 AA prog 54 = some (9, true) ∧
 BE prog 54 = some [(.st []), .it .i64 0, (.st []), .it .i64 0, .it .i64 0, .it .i64 0, .it .i64 0, .it .i64 0, .it .i64 0] ∧
 strOf prog 54 = some ([(0, 1), (1, 1), (2, 1), (3, 1), (4, 1), (5, 1), (6, 1), (7, 2)], [(.st []), .it .i64 0, (.st []), .it .i64 0, .it .i64 0, .it .i64 0, .it .i64 0, .it .i64 0, .it .i64 0]) ∧
 Al prog 54 0 = some (0, 1, false) ∧
 Al prog 54 1 = some (1, 1, false) ∧
 Al prog 54 2 = some (2, 1, false) ∧
 Al prog 54 3 = some (3, 1, false) ∧
 Al prog 54 4 = some (4, 1, false) ∧
 Al prog 54 5 = some (5, 1, false) ∧
 Al prog 54 6 = some (6, 1, false) ∧
 Al prog 54 7 = some (7, 2, true) ∧
 FN prog 54 = some [(9, 0, 1, false), (3, 1, 1, false), (9, 2, 1, false), (3, 3, 1, false), (3, 4, 1, false), (3, 5, 1, false), (3, 6, 1, false), (50, 7, 2, true)] ∧
 Program.eqGuardType prog (Program.depth prog) 54 = false := by and_intros <;> kernel_rfl
theorem Ln :
 AS prog 56 = .other ∧
 AA prog 56 = some (7, true) ∧
 BE prog 56 = some [.it .i64 0, (.st []), .it .i64 0, (.st []), .it .i64 0, .it .i64 0, .it .i64 0] ∧
 strOf prog 56 = some ([(0, 1), (1, 1), (2, 1), (3, 1), (4, 1), (5, 2)], [.it .i64 0, (.st []), .it .i64 0, (.st []), .it .i64 0, .it .i64 0, .it .i64 0]) ∧
 Al prog 56 0 = some (0, 1, false) ∧
 Al prog 56 1 = some (1, 1, false) ∧
 Al prog 56 2 = some (2, 1, false) ∧
 Al prog 56 3 = some (3, 1, false) ∧
 Al prog 56 4 = some (4, 1, false) ∧
 Al prog 56 5 = some (5, 2, true) ∧
 FN prog 56 = some [(3, 0, 1, false), (9, 1, 1, false), (3, 2, 1, false), (9, 3, 1, false), (3, 4, 1, false), (50, 5, 2, true)] ∧
 Program.eqGuardType prog (Program.depth prog) 56 = false := by and_intros <;> kernel_rfl
theorem Lm :
 AA prog 58 = some (12, true) ∧
 BE prog 58 = some [.it .i64 0, .it .i64 0, .it .i64 0, (.st []), (.st []), (.st []), (.sl Mode.full []), .it .i64 0, .it .i64 0, .it .i64 0, .it .i64 0, .it .i64 0] ∧
 strOf prog 58 = some ([(0, 1), (1, 1), (2, 1), (3, 1), (4, 1), (5, 1), (6, 1), (7, 1), (8, 1), (9, 1), (10, 2)], [.it .i64 0, .it .i64 0, .it .i64 0, (.st []), (.st []), (.st []), (.sl Mode.full []), .it .i64 0, .it .i64 0, .it .i64 0, .it .i64 0, .it .i64 0]) ∧
 Al prog 58 0 = some (0, 1, false) ∧
 Al prog 58 1 = some (1, 1, false) ∧
 Al prog 58 2 = some (2, 1, false) ∧
 Al prog 58 3 = some (3, 1, false) ∧
 Al prog 58 4 = some (4, 1, false) ∧
 Al prog 58 5 = some (5, 1, false) ∧
 Al prog 58 6 = some (6, 1, false) ∧
 Al prog 58 7 = some (7, 1, false) ∧
 Al prog 58 8 = some (8, 1, false) ∧
 Al prog 58 9 = some (9, 1, false) ∧
 Al prog 58 10 = some (10, 2, true) ∧
 AA prog 60 = some (49, true) ∧
 BE prog 60 = some [.it .i64 0, (.st []), .it .i64 0, (.st []), .it .i64 0, .it .i64 0, (.st []), (.st []), .it .i64 0, (.st []), (.sl Mode.full []), (.st []), (.st []), (.st []), (.st []), .it .i64 0, (.sl Mode.full []), .it .i64 0, .it .i64 0, .it .i64 0, .it .i64 0, (.st []), .it .i64 0, (.st []), .it .i64 0, .it .i64 0, .it .i64 0, .it .i64 0, .it .i64 0, .it .i64 0, .it .i64 0, (.st []), .it .i64 0, (.st []), .it .i64 0, .it .i64 0, .it .i64 0, .it .i64 0, .it .i64 0, .it .i64 0, (.st []), (.st []), (.st []), (.sl Mode.full []), .it .i64 0, .it .i64 0, .it .i64 0, .it .i64 0, .it .i64 0] ∧
 strOf prog 60 = some ([(0, 1), (1, 20), (21, 9), (30, 7), (37, 12)], [.it .i64 0, (.st []), .it .i64 0, (.st []), .it .i64 0, .it .i64 0, (.st []), (.st []), .it .i64 0, (.st []), (.sl Mode.full []), (.st []), (.st []), (.st []), (.st []), .it .i64 0, (.sl Mode.full []), .it .i64 0, .it .i64 0, .it .i64 0, .it .i64 0, (.st []), .it .i64 0, (.st []), .it .i64 0, .it .i64 0, .it .i64 0, .it .i64 0, .it .i64 0, .it .i64 0, .it .i64 0, (.st []), .it .i64 0, (.st []), .it .i64 0, .it .i64 0, .it .i64 0, .it .i64 0, .it .i64 0, .it .i64 0, (.st []), (.st []), (.st []), (.sl Mode.full []), .it .i64 0, .it .i64 0, .it .i64 0, .it .i64 0, .it .i64 0]) ∧
 Al prog 60 0 = some (0, 1, false) ∧
 Al prog 60 1 = some (1, 20, true) ∧
 Al prog 60 2 = some (21, 9, true) ∧
 Al prog 60 3 = some (30, 7, true) ∧
 Al prog 60 4 = some (37, 12, true) := by and_intros <;> kernel_rfl
theorem LM :
 AA prog 68 = some (1, false) ∧
 B2 prog 68 = some (82, 50, true) ∧
 El prog 68 = some (82, 50, 576) ∧
 AA prog 71 = some (1, false) := by and_intros <;> kernel_rfl
theorem LL :
 strOf prog 73 = some ([(0, 1), (1, 1), (2, 2), (4, 1), (5, 1)], [(.ot (.pointer none)), .it .i64 0, .it .i64 0, .it .i64 0, (.sl Mode.full []), .it .i64 0]) ∧
 Al prog 73 0 = some (0, 1, false) ∧
 Al prog 73 1 = some (1, 1, false) ∧
 Al prog 73 2 = some (2, 2, true) ∧
 Al prog 73 3 = some (4, 1, false) ∧
 Al prog 73 4 = some (5, 1, false) ∧
 AS prog 75 = .other ∧
 AA prog 75 = some (6, true) ∧
 BE prog 75 = some [.it .i64 0, .it .i64 0, (.st []), .it .i64 0, .it .i64 0, .it .i64 0] ∧
 strOf prog 75 = some ([(0, 1), (1, 1), (2, 1), (3, 1), (4, 2)], [.it .i64 0, .it .i64 0, (.st []), .it .i64 0, .it .i64 0, .it .i64 0]) ∧
 Al prog 75 0 = some (0, 1, false) ∧
 Al prog 75 1 = some (1, 1, false) ∧
 Al prog 75 2 = some (2, 1, false) ∧
 Al prog 75 3 = some (3, 1, false) ∧
 Al prog 75 4 = some (4, 2, true) ∧
 FN prog 75 = some [(3, 0, 1, false), (3, 1, 1, false), (9, 2, 1, false), (3, 3, 1, false), (50, 4, 2, true)] ∧
 Program.eqGuardType prog (Program.depth prog) 75 = false := by and_intros <;> kernel_rfl
theorem LK :
 AA prog 82 = some (50, true) ∧
 BE prog 82 = some [.it .i64 0, .it .i64 0, (.st []), .it .i64 0, (.st []), .it .i64 0, .it .i64 0, (.st []), (.st []), .it .i64 0, (.st []), (.sl Mode.full []), (.st []), (.st []), (.st []), (.st []), .it .i64 0, (.sl Mode.full []), .it .i64 0, .it .i64 0, .it .i64 0, .it .i64 0, (.st []), .it .i64 0, (.st []), .it .i64 0, .it .i64 0, .it .i64 0, .it .i64 0, .it .i64 0, .it .i64 0, .it .i64 0, (.st []), .it .i64 0, (.st []), .it .i64 0, .it .i64 0, .it .i64 0, .it .i64 0, .it .i64 0, .it .i64 0, (.st []), (.st []), (.st []), (.sl Mode.full []), .it .i64 0, .it .i64 0, .it .i64 0, .it .i64 0, .it .i64 0] ∧
 strOf prog 82 = some ([(0, 1), (1, 49)], [.it .i64 0, .it .i64 0, (.st []), .it .i64 0, (.st []), .it .i64 0, .it .i64 0, (.st []), (.st []), .it .i64 0, (.st []), (.sl Mode.full []), (.st []), (.st []), (.st []), (.st []), .it .i64 0, (.sl Mode.full []), .it .i64 0, .it .i64 0, .it .i64 0, .it .i64 0, (.st []), .it .i64 0, (.st []), .it .i64 0, .it .i64 0, .it .i64 0, .it .i64 0, .it .i64 0, .it .i64 0, .it .i64 0, (.st []), .it .i64 0, (.st []), .it .i64 0, .it .i64 0, .it .i64 0, .it .i64 0, .it .i64 0, .it .i64 0, (.st []), (.st []), (.st []), (.sl Mode.full []), .it .i64 0, .it .i64 0, .it .i64 0, .it .i64 0, .it .i64 0]) ∧
 Al prog 82 0 = some (0, 1, false) ∧
 Al prog 82 1 = some (1, 49, true) ∧
 AS prog 86 = .bytes ∧
 AA prog 86 = some (1, false) ∧
 B2 prog 86 = some (5, 1, false) ∧
 El prog 86 = some (5, 1, 1) := by and_intros <;> kernel_rfl
theorem LJ : M3 prog 86 = some 5 := by kernel_rfl
theorem LI :
 AA prog 92 = some (1, false) ∧
 B2 prog 92 = some (116, 2, true) ∧
 El prog 92 = some (116, 2, 32) ∧
 strOf prog 94 = some ([(0, 1), (1, 1), (2, 1), (3, 1), (4, 1)], [(.sl Mode.full []), .it .i64 0, .bo false, .it .i64 0, (.sl Mode.full [])]) ∧
 Al prog 94 0 = some (0, 1, false) ∧
 Al prog 94 1 = some (1, 1, false) ∧
 Al prog 94 2 = some (2, 1, false) ∧
 Al prog 94 3 = some (3, 1, false) ∧
 AA prog 96 = some (1, false) ∧
 BE prog 96 = some [(.ot (.pointer none))] := by and_intros <;> kernel_rfl
theorem LH :
 AA prog 99 = some (1, false) ∧
 D4 prog 99 = some (none, .bo false) ∧
 strOf prog 101 = some ([(0, 1), (1, 1), (2, 2), (4, 1), (5, 1), (6, 1)], [(.ot (.pointer none)), .it .i64 0, .it .i64 0, .it .i64 0, (.sl Mode.full []), (.ot (.map none)), .it .i64 0]) ∧
 Al prog 101 0 = some (0, 1, false) ∧
 Al prog 101 1 = some (1, 1, false) ∧
 Al prog 101 2 = some (2, 2, true) ∧
 Al prog 101 3 = some (4, 1, false) ∧
 Al prog 101 4 = some (5, 1, false) ∧
 Al prog 101 5 = some (6, 1, false) := by and_intros <;> kernel_rfl
theorem LF :
 AA prog 116 = some (2, true) ∧
 BE prog 116 = some [(.st []), (.st [])] ∧
 strOf prog 116 = some ([(0, 1), (1, 1)], [(.st []), (.st [])]) := by and_intros <;> kernel_rfl
theorem LE :
 Al prog 116 0 = some (0, 1, false) ∧
 Al prog 116 1 = some (1, 1, false) := by and_intros <;> kernel_rfl
theorem LD :
 strOf prog 129 = some ([(0, 1), (1, 1), (2, 1)], [(.ot (.pointer none)), .it .i64 0, (.sl Mode.full [])]) ∧
 Al prog 129 0 = some (0, 1, false) ∧
 Al prog 129 1 = some (1, 1, false) ∧
 Al prog 129 2 = some (2, 1, false) := by and_intros <;> kernel_rfl
theorem LC :
 strOf prog 144 = some ([(0, 1), (1, 1), (2, 1)], [(.ot (.pointer none)), .it .i64 0, (.sl Mode.full [])]) ∧
 Al prog 144 0 = some (0, 1, false) ∧
 Al prog 144 1 = some (1, 1, false) ∧
 Al prog 144 2 = some (2, 1, false) ∧
 AA prog 147 = some (1, false) := by and_intros <;> kernel_rfl
theorem LA :
 AS prog 153 = .other ∧
 AA prog 153 = some (5, true) ∧
 BE prog 153 = some [.it .i64 0, .it .i64 0, (.st []), (.st []), (.st [])] ∧
 strOf prog 153 = some ([(0, 1), (1, 1), (2, 3)], [.it .i64 0, .it .i64 0, (.st []), (.st []), (.st [])]) ∧
 Al prog 153 0 = some (0, 1, false) ∧
 Al prog 153 1 = some (1, 1, false) ∧
 Al prog 153 2 = some (2, 3, true) ∧
 FN prog 153 = some [(3, 0, 1, false), (3, 1, 1, false), (47, 2, 3, true)] ∧
 Program.eqGuardType prog (Program.depth prog) 153 = false := by and_intros <;> kernel_rfl
theorem Ly :
 AS prog 161 = (.int .u64) ∧
 AS prog 163 = (.int .u64) ∧
 AS prog 164 = (.int .u32) := by and_intros <;> kernel_rfl
theorem Lx :
 strOf prog 179 = some ([(0, 1), (1, 1)], [(.st []), .bo false]) ∧
 Al prog 179 0 = some (0, 1, false) ∧
 Al prog 179 1 = some (1, 1, false) ∧
 BE prog 186 = some [(.sl Mode.full [])] ∧
 Al prog 186 0 = some (0, 1, false) := by and_intros <;> kernel_rfl
theorem Lw :
 AA prog 189 = some (1, false) ∧
 AA prog 191 = some (4, true) ∧
 BE prog 191 = some [(.st []), .ot .nilFunc, .it .i64 0, .it .i64 0] ∧
 strOf prog 191 = some ([(0, 1), (1, 1), (2, 2)], [(.st []), .ot .nilFunc, .it .i64 0, .it .i64 0]) ∧
 Al prog 191 1 = some (1, 1, false) ∧
 Al prog 191 2 = some (2, 2, true) := by and_intros <;> kernel_rfl
theorem Lv :
 strOf prog 198 = some ([(0, 1), (1, 1)], [(.st []), .bo false]) ∧
 Al prog 198 0 = some (0, 1, false) ∧
 Al prog 198 1 = some (1, 1, false) := by and_intros <;> kernel_rfl
theorem Lu :
 AA prog 209 = some (2, true) ∧
 BE prog 209 = some [.it .i64 0, .ot .nilFunc] ∧
 strOf prog 209 = some ([(0, 1), (1, 1)], [.it .i64 0, .ot .nilFunc]) ∧
 Al prog 209 0 = some (0, 1, false) ∧
 Al prog 209 1 = some (1, 1, false) ∧
 D4 prog 211 = some (some .i64, (.agg [.it .i64 0, .ot .nilFunc])) := by and_intros <;> kernel_rfl
theorem Lt :
 AA prog 219 = some (1, false) ∧
 BE prog 219 = some [.ot .nilFunc] := by and_intros <;> kernel_rfl
end Pe
end
end Go.Proofs.YtldohjjoicmfpaaGreatDoor
