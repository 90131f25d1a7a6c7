import Derived.Test.YtiidnoejnphocaaGreatDoorKs18
set_option linter.unusedSectionVars false
set_option linter.unusedVariables false
set_option linter.unusedSimpArgs false
namespace Go.Proofs.YtiidnoejnphocaaGreatDoor
section
namespace Pe
open _root_.Go.Proofs.Tryz
open Go Go.RowKit Co Sg Ac It Sl Tp
set_option maxRecDepth 100000
set_option maxHeartbeats 4000000
abbrev DI (w : Wish) : AV := .agg [.it .i64 w.who, .it .i64 w.kind, .it .i64 w.on, .it .i64 w.whom, .st w.txt, .it .i64 w.spoil]
abbrev CT (n : Int) : Prop := -9223372036854775808 ≤ n ∧ n ≤ 9223372036854775807
structure Wz (w : Wish) : Prop where
 who : CT w.who
 kind : CT w.kind
 on : CT w.on
 whom : CT w.whom
 txt : w.txt.length ≤ 200
 spoil : CT w.spoil
theorem MY (n : Int) : (CA n).length ≤ 16 := by
 unfold CA;rw [List.length_take];omega
def Hg (who me time : Int) : Ac.Act := { Au with author := B9 who, kind := 0, time := time, text := [97, 99, 116, 111, 114] ++ DH (AZ who 4).toNat, n := (Br who 0).pub, m := me }
theorem Zee (who me time : Int) : Sz (Hg who me time) := by
 have h1 := MY (Br who 0).pub;have h2 := Nh (AZ who 4).toNat;refine ⟨?_, by show (0 : Nat) ≤ _; omega, by show (0 : Nat) ≤ _; omega, ?_, (fun s hs => nomatch hs), by show (0 : Nat) ≤ _; omega, by show (0 : Nat) ≤ _; omega⟩
 ·show (CA _).length ≤ _
  omega
 ·show ([97, 99, 116, 111, 114] ++ DH (AZ who 4).toNat).length ≤ _
  rw [List.length_append];simp only [List.length_cons, List.length_nil];omega
theorem I3 : Sz Au := ⟨by decide, by decide, by decide, by decide, (fun s hs => nomatch hs), by decide, by decide⟩
theorem I2 (k : Key) (a : Ac.Act) : Sz (BI k a) := by
 unfold BI;simp only
 split
 ·rename_i h
  rw [Bool.and_eq_true] at h;have := QS h.1;exact ⟨this.author, this.target, this.group, this.text, this.tos, this.to, this.wraps⟩
 ·exact I3
theorem PW (who me time : Int) (h : CT who) : AC prog 17 [.it .i64 who, .it .i64 me, .it .i64 time] [] (As (BC who me time)) [] := by
 have hp := Gk who (m := 4) (by decide)
 have k1 := MU who 0 h (by decide)
 have k2 := JJ who h;have k3 := EZ who 4 h (by decide)
 have k4 := N6 (AZ who 4).toNat (by omega)
 rw [show (((AZ who 4).toNat : Nat) : Int) = AZ who 4 by omega] at k4
 have hi := ND who 0;have hd := Nh (AZ who 4).toNat;have k5 := Lm (Br who 0) (Hg who me time) (Zee who me time) (by show (0 : Nat) ≤ _; omega) (by show (0 : Nat) ≤ _; omega) (by omega)
 have eV : As (Hg who me time) = .agg [.st (B9 who), .it .i64 0, .st [], .it .i64 0, .it .i64 time, .st [], .st [], .it .i64 0, .st [], .sl .ro [], .st ([97, 99, 116, 111, 114] ++ DH (AZ who 4).toNat), .st [], .st [], .st [], .it .i64 0, .sl .ro [], .it .i64 (Br who 0).pub, .it .i64 me, .it .i64 0, .it .i64 0] := rfl;rw [eV] at k5;change AC _ _ _ _ (As (BC who me time)) _ at k5;generalize BC who me time = B at *;clear eV;generalize DH (AZ who 4).toNat = x at *;generalize AZ who 4 = p at *;generalize B9 who = id at *;generalize Br who 0 = k at *;refine Ai [48, 22, 8, 49, 50] [] func17 ?_;refine run ?_;refine cp k1 ?_;refine run ?_;refine cp k2 ?_;refine run ?_;refine cp k3 ?_;refine run ?_;refine cp k4 ?_;refine run ?_;refine cp k5 ?_;refine run ?_;exact Am
theorem ZY (l : List Ac.Act) (k : Nat) (h : k < l.length) : EH (l.take (k + 1)) = EH (l.take k) ++ if EI l[k].kind = true then [dg l[k]] else [] := by
 unfold EH;rw [M9 _ l k h, List.map_append];split <;> rfl
theorem Z0 (ps : List Int) (l : List Ac.Act) (hl : l.length ≤ 1000) (hr : Bt l) : AC prog 219 [BN ps l] [] (At (EH l)) [] := by
 have hsz := DP l;refine Ai [233, 73] [] func219 ?_;refine run ?_;refine C2 (fun m e S => e 1 = .ptr 0 0 ∧ ∃ (k : Nat) (acc : List By) (T : Ae), e 4 = .it .i64 (k : Int) ∧ e 3 = .sl (.own 1) (acc.map .st) ∧ S = .cells [Bn ps, .sl .ro (l.map AH)] :: .buf acc.length 9 1 :: T ∧ acc = EH (l.take k) ∧ k ≤ l.length ∧ m = l.length - k) l.length _ _ (Ay.reserve 0 3 (es := []) (by rfl) 9 1)
  ⟨Ad, 0, [], [], Ad, Ad, rfl, by simp [EH], by omega, rfl⟩ ?_
 rintro m e S ⟨s1, k, acc, T, s4, s3, rfl, hacc, hk, rfl⟩
 have hal : acc.length ≤ k := by
  rw [hacc, EH, List.length_map];exact Nat.le_trans (List.length_filter_le _ _) (by rw [List.length_take]; omega)
 have hsa : Ax 1 (acc.map AV.st) = true := Bh 1 AV.st (fun _ => rfl) _
 by_cases hlt : k < l.length
 ·have hg : l[k]? = some l[k] := List.getElem?_eq_getElem hlt
  have hst := ZY l k hlt;rw [← hacc] at hst;have hlt' : (k : Int) < (l.length : Int) := by omega
  have w1 := Bx (k := k) (by omega)
  have kd := F2 l[k] (DE (Dg [] (hr _ (List.getElem_mem hlt))).1);have kp := TE l[k].kind;generalize l[k] = a at *;generalize dg a = d at *;have hkk : ((Av a).kind == 0) = true := rfl;change AC _ _ [.it .i64 (Av a).act.kind] _ _ _ at kp;cases hp : EI a.kind with
  | true =>
   rw [hp] at kp hst;rw [if_pos rfl] at hst;refine Aa (A7 @s1 @s4 @s3 @hlt' @hg @hsz @w1) ?_;refine cp kp ?_;refine Aa (A7 @s1 @s4 @s3 @hg @hsz @hlt' @hkk) ?_;refine cp kd ?_;refine Aa (A5 @s1 @s4 @s3 @hsa @w1) ?_;exact Ao (l.length - (k + 1)) (by omega) ⟨Ad, k + 1, acc ++ [d], _, Ad, by rw [List.map_append]; exact Ad, by rw [List.length_append]; rfl, hst.symm, by omega, rfl⟩
  | false =>
   rw [hp] at kp hst;rw [if_neg (by decide), List.append_nil] at hst
   refine Aa (A7 @s1 @s4 @s3 @hlt' @hg @hsz @w1) ?_;refine cp kp ?_;refine Aa (A8 @s1 @s4 @s3 @hg @hsz @hlt' @hkk @w1) ?_;exact Ao (l.length - (k + 1)) (by omega) ⟨Ad, k + 1, acc, _, Ad, Ad, rfl, hst.symm, by omega, rfl⟩
 ·obtain rfl : k = l.length := by omega
  rw [List.take_length] at hacc;subst hacc;have hlt' : ¬ (l.length : Int) < (l.length : Int) := by omega
  refine Aa (A4 @s1 @s4 @s3 @hlt') ?_;exact Am
theorem ZZ (l : List Ac.Act) : (EH l).length ≤ l.length := by
 rw [EH, List.length_map];exact List.length_filter_le _ _
theorem Z3 (ps : List Int) (l : List Ac.Act) (on : Int) (hl : l.length ≤ 1000) (hr : Bt l) (ho : CT on) : AC prog 133 [BN ps l, .it .i64 on] [] (.st (KN l on)) [] := by
 have k1 := Z0 ps l hl hr;have hpl := ZZ l;have k2 := PW 0 0 0 (by decide)
 have k3 := OJ (BC 0 0 0);have k4 := F2 (BC 0 0 0) ⟨show Sz (BC 0 0 0) by unfold BC; exact I2 _ _, by show (0 : Nat) ≤ _; omega, by show (0 : Nat) ≤ _; omega, ⟨by show (0 : Nat) ≤ _; omega, by show (0 : Nat) ≤ _; omega, (fun s hs => nomatch hs)⟩⟩
 unfold KN;generalize EH l = L at *;have hszL : Ax 1 (L.map AV.st) = true := Bh 1 AV.st (fun _ => rfl) _
 by_cases h0 : L = []
 ·subst h0
  rw [if_pos rfl];generalize dg (BC 0 0 0) = d at *;generalize BC 0 0 0 = b at *;refine Ai [219, 17, 28, 73, 8] [] func133 ?_;refine run ?_;refine cp k1 ?_;refine run ?_;refine cp k2 ?_;refine run ?_;refine cp k3 ?_;refine run ?_;refine cp k4 ?_;refine run ?_;exact Ab
 ·have hL : 0 < L.length := List.length_pos_iff.2 h0
  have k5 := EZ on (L.length : Int) ho (by omega)
  have hp := Gk on (m := (L.length : Int)) (by omega)
  have q0 : ((L.length : Int) == 0) = false := beq_eq_false_iff_ne.2 (by omega)
  rw [if_neg h0];have hg : L[(AZ on (L.length : Int)).toNat]? = some (L.getD (AZ on (L.length : Int)).toNat []) := by rw [List.getD_eq_getElem?_getD, List.getElem?_eq_getElem (by omega)]; rfl
  generalize L.getD (AZ on (L.length : Int)).toNat [] = d at *;generalize AZ on (L.length : Int) = p at *;have hp1 : 0 ≤ p := hp.1;have hp2 : p < (L.length : Int) := hp.2;refine Ai [219, 17, 28, 73, 8] [] func133 ?_;refine run ?_;refine cp k1 ?_;refine Aa @q0 ?_;refine cp k5 ?_;refine Aa (A4 @hg @hszL @hp1 @hp2) ?_;exact Ab
theorem SS (c : Chn) (low high : Int) (hl : c.acts.length ≤ 1000) (h0 : c.acts ≠ []) (hr : Bt c.acts) : AC prog 134 [BH c, .it .i64 low, .it .i64 high] [] (.st (GX c low high)) [] := by
 obtain ⟨id, acts, keys, prev, gen, fork⟩ := c;simp only at hl h0 hr
 have hsz := DV acts;have hpos : 0 < acts.length := List.length_pos_iff.2 h0;have w0 : IntKind.i64.wrap ((acts.length : Int) - 1) = ((acts.length - 1 : Nat) : Int) := by rw [wrap64 (by omega) (by omega)]; omega
 have htl : acts.tail.length = acts.length - 1 := List.length_tail;have hkd : ∀ j, j < acts.length → ∀ a, acts[j]? = some a → AC prog 68 [As a] [] (.st (dg a)) [] := fun j _ a ha => Pa a (DE (Dg [] (hr _ (List.mem_of_getElem? ha))).1)
 have hfst : acts[0]? = some (acts.getD 0 Au) := by rw [List.getD_eq_getElem?_getD, List.getElem?_eq_getElem hpos]; rfl
 obtain ⟨r, hrr⟩ : ∃ r, GX ⟨id, acts, keys, prev, gen, fork⟩ low high = r := ⟨_, rfl⟩
 rw [hrr];unfold GX at hrr;simp only at hrr
 refine Ai [68] [] func134 ?_;refine Aa @w0 ?_;refine AF (fun m e S => e 1 = .it .i64 low ∧ e 2 = .it .i64 high ∧ e 3 = .ptr 0 0 ∧ S = [.cells [.st id, BO acts, .sl .ro (keys.map Bd), .st prev, .it .i64 gen, .bo fork]] ∧ ∃ j : Nat, e 7 = .it .i64 (j : Int) ∧ j ≤ acts.length - 1 ∧ acts.tail.reverse.find? (fun a => decide (low ≤ a.kind) && decide (a.kind ≤ high)) = (acts.tail.take j).reverse.find? (fun a => decide (low ≤ a.kind) && decide (a.kind ≤ high)) ∧ m = j) (acts.length - 1) ⟨Ad, Ad, Ad, rfl, acts.length - 1, Ad, Nat.le_refl _, by rw [← htl, List.take_length], rfl⟩ ?_
 rintro m e S ⟨s1, s2, s3, rfl, j, s7, hj, hf, rfl⟩
 cases m with
 | zero =>
  have hn : ¬ ((0 : Nat) : Int) > 0 := by omega
  have hp0 : (0 : Int) < (acts.length : Int) := by omega
  have hv : acts.tail.reverse.find? (fun a => decide (low ≤ a.kind) && decide (a.kind ≤ high)) = none := hf
  rw [hv] at hrr;have hrr : dg (acts.getD 0 Au) = r := hrr;have kd := hkd 0 hpos _ hfst;rw [hrr] at kd;generalize acts.getD 0 Au = a at *;refine Aa (A8 @s1 @s2 @s3 @s7 @hn @hfst @hsz @hp0) ?_;refine cp kd ?_;refine Aa (A4 @s1 @s2 @s3 @s7) ?_;exact Ab
 | succ j =>
  have hjl : j < acts.tail.length := by omega
  have hg : acts[j + 1]? = some acts.tail[j] := by
   have : acts.tail[j]? = some acts.tail[j] := List.getElem?_eq_getElem hjl
   rw [List.getElem?_tail] at this
   exact this
  have hp : ((j + 1 : Nat) : Int) > 0 := by omega
  have hpl : ((j + 1 : Nat) : Int) < (acts.length : Int) := by omega
  have htk : (acts.tail.take (j + 1)).reverse = acts.tail[j] :: (acts.tail.take j).reverse := by rw [List.take_succ_eq_append_getElem hjl, List.reverse_append]; rfl
  rw [htk, List.find?_cons] at hf
  have w1 : IntKind.i64.wrap (((j + 1 : Nat) : Int) - 1) = (j : Int) := by rw [wrap64 (by omega) (by omega)]; omega
  have kd := hkd (j + 1) (by omega) _ hg
  generalize acts.tail[j] = a at *;by_cases c1 : a.kind ≥ low
  ·have d1 : decide (low ≤ a.kind) = true := decide_eq_true c1
   by_cases c2 : a.kind ≤ high
   ·have d2 : decide (a.kind ≤ high) = true := decide_eq_true c2
    rw [d1, d2] at hf;have hf : acts.tail.reverse.find? (fun a => decide (low ≤ a.kind) && decide (a.kind ≤ high)) = some a := hf
    rw [hf] at hrr;have hrr : dg a = r := hrr;rw [hrr] at kd;refine Aa (B1 @s1 @s2 @s3 @s7 @hp @hpl @hg @hsz @c1 @c2) ?_;refine cp kd ?_;refine Aa (A4 @s1 @s2 @s3 @s7) ?_;exact Ab
   ·have d2 : decide (a.kind ≤ high) = false := decide_eq_false c2
    rw [d1, d2] at hf;refine Aa (Aw @s1 @s2 @s3 @s7 @hp @hpl @hg @hsz @c1 @c2 @w1) ?_;exact Ao j (by omega) ⟨Ad, Ad, Ad, rfl, j, Ad, by omega, hf, rfl⟩
  ·have d1 : decide (low ≤ a.kind) = false := decide_eq_false c1
   rw [d1] at hf;refine Aa (B1 @s1 @s2 @s3 @s7 @hp @hpl @hg @hsz @c1 @w1) ?_;exact Ao j (by omega) ⟨Ad, Ad, Ad, rfl, j, Ad, by omega, hf, rfl⟩
theorem ZS (ps : List Int) (l : List Ac.Act) (ids : List By) (hl : l.length ≤ 100) (hr : Bt l) (hi : ids.length ≤ 1000) : AC prog 131 [BN ps l, At ids] [] (Bn (D5 l ids)) [] := by
 have hszI : Ax 1 (ids.map AV.st) = true := Bh 1 AV.st (fun _ => rfl) _
 have kc := fun id => Nl ps l id hl hr
 have hok := fun id => (MD hr id).1
 refine Ai [62] [] func131 ?_;refine run ?_;refine C2 (fun m e S => e 1 = At ids ∧ e 2 = .ptr 0 0 ∧ ∃ (k : Nat) (acc : List Int) (T : Ae), e 6 = .it .i64 (k : Int) ∧ e 5 = .sl (.own 1) (acc.map (AV.it .i64)) ∧ S = .cells [Bn ps, .sl .ro (l.map AH)] :: .buf acc.length 3 1 :: T ∧ acc = D5 l (ids.take k) ∧ k ≤ ids.length ∧ m = ids.length - k) ids.length _ _ (Ay.reserve 0 5 (es := []) (by rfl) 3 1)
  ⟨Ad, Ad, 0, [], [], Ad, Ad, rfl, by simp [D5], by omega, rfl⟩ ?_
 rintro m e S ⟨s1, s2, k, acc, T, s6, s5, rfl, hacc, hk, rfl⟩
 have hal : acc.length ≤ k := by rw [hacc, D5, List.length_map, List.length_take]; omega
 have hsa : Ax 1 (acc.map (AV.it .i64)) = true := Bh 1 (AV.it .i64) (fun _ => rfl) _
 have hT1 : ∀ y : SObj, (T ++ [y])[T.length]? = some y := fun y => by simp
 have hT2 : ∀ y z : SObj, (T ++ [y]).set T.length z = T ++ [z] := fun y z => by simp
 by_cases hlt : k < ids.length
 ·have hg : ids[k]? = some ids[k] := List.getElem?_eq_getElem hlt
  have hst : acc ++ [if (Cl l ids[k]).keys = [] then 1 else (Do (Cl l ids[k])).pub] = D5 l (ids.take (k + 1)) := by
   rw [hacc, D5, D5, List.take_succ_eq_append_getElem hlt, List.map_append];rfl
  have hlt' : (k : Int) < (ids.length : Int) := by omega
  have w1 := Bx (k := k) (by omega)
  have kx := kc ids[k];have hox := hok ids[k];generalize ids[k] = id at *;generalize Cl l id = c at *;have hck := hox.klen;have hszk := Ju c.keys;by_cases h0 : c.keys = []
  ·rw [if_pos h0] at hst
   have hkl : c.keys.length = 0 := by rw [h0]; rfl
   have q0 : ¬ (c.keys.length : Int) > 0 := by omega
   refine Aa (A7 @s1 @s2 @s6 @s5 @hlt' @hg @hszI) ?_;refine cp kx ?_;refine Aa (A9 @s1 @s2 @s6 @s5 @hT1 @hT2 @q0 @hsa @w1) ?_;exact Ao (ids.length - (k + 1)) (by omega) ⟨Ad, Ad, k + 1, acc ++ [1], _, Ad, by rw [List.map_append]; exact Ad, by rw [List.length_append]; rfl, hst, by omega, rfl⟩
  ·rw [if_neg h0] at hst
   have hkl : 0 < c.keys.length := List.length_pos_iff.2 h0;have q0 : (c.keys.length : Int) > 0 := by omega
   have hlk := MT h0;have w0 : IntKind.i64.wrap ((c.keys.length : Int) - 1) = ((c.keys.length - 1 : Nat) : Int) := by rw [wrap64 (by omega) (by omega)]; omega
   have hkb : ((c.keys.length - 1 : Nat) : Int) < (c.keys.length : Int) := by omega
   generalize Do c = lk at *;refine Aa (A7 @s1 @s2 @s6 @s5 @hlt' @hg @hszI) ?_;refine cp kx ?_;refine Aa (an @s1 (an @s2 (Aw @s6 @s5 @hT1 @hT2 @q0 @hlk @hszk @w0 @hkb @hsa @w1))) ?_;exact Ao (ids.length - (k + 1)) (by omega) ⟨Ad, Ad, k + 1, acc ++ [lk.pub], _, Ad, by rw [List.map_append]; exact Ad, by rw [List.length_append]; rfl, hst, by omega, rfl⟩
 ·obtain rfl : k = ids.length := by omega
  rw [List.take_length] at hacc;subst hacc;have hlt' : ¬ (ids.length : Int) < (ids.length : Int) := by omega
  refine Aa (A5 @s1 @s2 @s6 @s5 @hlt') ?_;exact Am
theorem Zbh (w : Wish) (h : CT w.kind) : AC prog 65 [DI w] [] (.it .i64 (D8 w)) [] := by
 have k1 := EZ w.kind 16 h (by decide)
 have hp := Gk w.kind (m := 16) (by decide)
 have hg : ([AV.it .i64 1, .it .i64 1, .it .i64 2, .it .i64 3, .it .i64 5, .it .i64 4, .it .i64 6, .it .i64 7, .it .i64 8, .it .i64 10, .it .i64 11, .it .i64 13, .it .i64 14, .it .i64 15, .it .i64 18, .it .i64 (-1)] : List AV)[(AZ w.kind 16).toNat]? = some (.it .i64 (D8 w)) := by
  have h1 : ∀ n : Nat, n < 16 → ([AV.it .i64 1, .it .i64 1, .it .i64 2, .it .i64 3, .it .i64 5, .it .i64 4, .it .i64 6, .it .i64 7, .it .i64 8, .it .i64 10, .it .i64 11, .it .i64 13, .it .i64 14, .it .i64 15, .it .i64 18, .it .i64 (-1)] : List AV)[n]? = some (.it .i64 (([1, 1, 2, 3, 5, 4, 6, 7, 8, 10, 11, 13, 14, 15, 18, -1] : List Int).getD n 0)) := fun n hn => by
   match n, hn with
   | 0, _ => rfl
   | 1, _ => rfl
   | 2, _ => rfl
   | 3, _ => rfl
   | 4, _ => rfl
   | 5, _ => rfl
   | 6, _ => rfl
   | 7, _ => rfl
   | 8, _ => rfl
   | 9, _ => rfl
   | 10, _ => rfl
   | 11, _ => rfl
   | 12, _ => rfl
   | 13, _ => rfl
   | 14, _ => rfl
   | 15, _ => rfl
   | n + 16, hn => omega
  exact h1 _ (by omega)
 generalize D8 w = kd at *;generalize AZ w.kind 16 = p at *;have hp1 : 0 ≤ p := hp.1;have hp2 : p < 16 := hp.2;refine Ai [8] [] func65 ?_;refine run ?_;refine cp k1 ?_;refine Aa (A3 @hg @hp1 @hp2) ?_;exact Ab
theorem Sy (c : Chn) (hl : c.keys.length ≤ 1000) (h0 : c.keys ≠ []) : AC prog 63 [BH c] [] (.it .i64 ((c.keys.length - 1 : Nat) : Int)) [] := by
 have hkl : 0 < c.keys.length := List.length_pos_iff.2 h0;have w0 : IntKind.i64.wrap ((c.keys.length : Int) - 1) = ((c.keys.length - 1 : Nat) : Int) := by rw [wrap64 (by omega) (by omega)]; omega
 refine Ai [] [] func63 ?_;refine Aa @w0 ?_;exact Ab
end Pe
end
section
namespace Pe
open _root_.Go.Proofs.Tryz
open Go Go.RowKit Co Sg Ac It Sl Tp
set_option maxRecDepth 100000
set_option maxHeartbeats 8000000
theorem Zch (ps : List Int) (l : List Ac.Act) (c : Chn) (w : Wish) (a : Ac.Act) (hl : l.length ≤ 100) (hr : Bt l) (hw : Wz w) (hcl : c.acts.length ≤ 300) (hck : c.keys.length ≤ 90) (h0 : c.acts ≠ []) (hk0 : c.keys ≠ []) (hrc : Bt c.acts) :
  AC prog 67 [BN ps l, BH c, DI w, As a] [] (As (FX l c w a)) [] := by
 have hkl : 0 < c.keys.length := List.length_pos_iff.2 hk0;have kpost := Z3 ps l w.on (by omega) hr hw.on
 have kl1 := SS c 4 11 (by omega) h0 hrc
 have kl2 := SS c 1 3 (by omega) h0 hrc
 have kact := JJ w.whom hw.whom;have kmv := Sy c (by omega) hk0
 have kkey := MU w.who c.keys.length hw.who (by omega)
 have kpk := EZ w.whom 3 hw.whom (by decide)
 have w1 : IntKind.i64.wrap (((c.keys.length - 1 : Nat) : Int) + 1) = (c.keys.length : Int) := by rw [wrap64 (by omega) (by omega)]; omega
 obtain ⟨q, hq⟩ : ∃ q, FX l c w a = q := ⟨_, rfl⟩
 rw [hq];unfold FX at hq;obtain ⟨a1, a2, a3, a4, a5, a6, a7, a8, a9, a10, a11, ⟨b1, b2, b3⟩, a12, a13, a14, a15, ⟨g1, g2⟩⟩ := a;simp only at hq
 generalize KN l w.on = po at *;generalize GX c 4 11 = la at *;generalize GX c 1 3 = lb at *;generalize B9 w.whom = ac at *;generalize Br w.who c.keys.length = kk at *;generalize AZ w.whom 3 = pk at *;by_cases c1 : a4 = 1
 ·subst c1
  have hq := hq.symm;simp at hq
  subst hq;refine Ai [133, 134, 22, 63, 48, 8] [] func67 ?_;refine run ?_;exact Am
 by_cases c2 : a4 = 2
 ·subst c2
  have hq := hq.symm;simp at hq
  subst hq;refine Ai [133, 134, 22, 63, 48, 8] [] func67 ?_;refine run ?_;refine cp kpost ?_;refine Aa @w1 ?_;exact Am
 by_cases c3 : a4 = 3
 ·subst c3
  have hq := hq.symm;simp at hq
  subst hq;refine Ai [133, 134, 22, 63, 48, 8] [] func67 ?_;refine run ?_;refine cp kpost ?_;refine Aa @w1 ?_;exact Am
 by_cases c5 : a4 = 5
 ·subst c5
  have hq := hq.symm;simp at hq
  subst hq;refine Ai [133, 134, 22, 63, 48, 8] [] func67 ?_;refine run ?_;refine cp kpost ?_;refine Aa @w1 ?_;exact Am
 by_cases c4 : a4 = 4
 ·subst c4
  have hq := hq.symm;simp at hq
  subst hq;refine Ai [133, 134, 22, 63, 48, 8] [] func67 ?_;refine run ?_;refine cp kpost ?_;refine Aa @w1 ?_;exact Am
 by_cases c6 : a4 = 6
 ·subst c6
  have hq := hq.symm;simp at hq
  subst hq;refine Ai [133, 134, 22, 63, 48, 8] [] func67 ?_;refine run ?_;refine cp kl1 ?_;refine Aa @w1 ?_;exact Am
 by_cases c13 : a4 = 13
 ·subst c13
  have hq := hq.symm;simp at hq
  subst hq;refine Ai [133, 134, 22, 63, 48, 8] [] func67 ?_;refine run ?_;refine cp kl2 ?_;refine Aa @w1 ?_;exact Am
 by_cases c14 : a4 = 14
 ·subst c14
  have hq := hq.symm;simp at hq
  subst hq;refine Ai [133, 134, 22, 63, 48, 8] [] func67 ?_;refine run ?_;refine cp kl2 ?_;refine Aa @w1 ?_;exact Am
 by_cases c15 : a4 = 15
 ·subst c15
  have hq := hq.symm;simp at hq
  subst hq;refine Ai [133, 134, 22, 63, 48, 8] [] func67 ?_;refine run ?_;refine cp kact ?_;refine Aa @w1 ?_;exact Am
 by_cases c18 : a4 = 18
 ·subst c18
  have hq := hq.symm;simp at hq
  subst hq;refine Ai [133, 134, 22, 63, 48, 8] [] func67 ?_;refine run ?_;refine cp kmv ?_;refine Aa @w1 ?_;refine cp kkey ?_;refine Aa @w1 ?_;refine cp kpk ?_;refine Aa @w1 ?_;exact Am
 have hq := hq.symm;simp [c1, c2, c3, c5, c4, c6, c13, c14, c15, c18] at hq
 subst hq;have q1 : (a4 == 1) = false := beq_eq_false_iff_ne.2 c1;have q2 : (a4 == 2) = false := beq_eq_false_iff_ne.2 c2;have q3 : (a4 == 3) = false := beq_eq_false_iff_ne.2 c3;have q5 : (a4 == 5) = false := beq_eq_false_iff_ne.2 c5;have q4 : (a4 == 4) = false := beq_eq_false_iff_ne.2 c4;have q6 : (a4 == 6) = false := beq_eq_false_iff_ne.2 c6;have q13 : (a4 == 13) = false := beq_eq_false_iff_ne.2 c13;have q14 : (a4 == 14) = false := beq_eq_false_iff_ne.2 c14;have q15 : (a4 == 15) = false := beq_eq_false_iff_ne.2 c15;have q18 : (a4 == 18) = false := beq_eq_false_iff_ne.2 c18;refine Ai [133, 134, 22, 63, 48, 8] [] func67 ?_;refine Aa (B1 @q1 @q2 @q3 @q5 @q4 @q6 @q13 @q14 @q15 @q18) ?_;refine cp kact ?_;refine run ?_;exact Am
theorem YI (ps : List Int) (l : List Ac.Act) (c : Chn) (key : Key) (w : Wish) (time : Int) (hl : l.length ≤ 50) (hr : Bt l) (hw : Wz w) (hk : key.right = true) (hcl : c.acts.length ≤ 60) (hck : c.keys.length ≤ 90) (hrc : Bt c.acts) (hid : c.id.length ≤ 1000) (hpv : c.prev.length ≤ 1000) :
  AC prog 66 [BN ps l, BH c, Ea key, DI w, .it .i64 time] [] (As (H9 l c key w time)) [] := by
 have hkr := Key.right_iff.1 hk;have htx := hw.txt;have kd := PT c 1 time (by omega)
 have kp := Z4 key c time w.txt hk (by omega) (by omega) hrc hid hpv (by omega)
 have km := OS c c.acts.length (by omega) (by omega) hrc
 have hml := OR c c.acts.length;have kpu := ZS ps l (BM c c.acts.length) (by omega) hr (by omega)
 have hpl : (D5 l (BM c c.acts.length)).length = (BM c c.acts.length).length := by rw [D5, List.length_map]
 have kg := ZbV key c (D5 l (BM c c.acts.length)) time hk (by omega) (by omega) hrc hid hpl
 have hgf := ZbT key c (D5 l (BM c c.acts.length)) time (by omega)
 have hsd : Sz { CF c 1 time with text := w.txt } := ⟨by show c.id.length ≤ _; omega, by show (0 : Nat) ≤ _; omega, by show (0 : Nat) ≤ _; omega, by show w.txt.length ≤ _; omega, (fun s hs => nomatch hs), by show (0 : Nat) ≤ _; omega, by show (0 : Nat) ≤ _; omega⟩
 have ks := Lm key { CF c 1 time with text := w.txt } hsd (by show (0 : Nat) ≤ _; omega) (by show (0 : Nat) ≤ _; omega) (by omega)
 have eV : As { CF c 1 time with text := w.txt } = .agg [.st c.id, .it .i64 (c.acts.length : Int), .st c.prev, .it .i64 1, .it .i64 time, .st [], .st [], .it .i64 0, .st [], .sl .ro [], .st w.txt, .st [], .st [], .st [], .it .i64 0, .sl .ro [], .it .i64 0, .it .i64 0, .it .i64 0, .it .i64 0] := rfl
 rw [eV] at ks;obtain ⟨q, hq⟩ : ∃ q, H9 l c key w time = q := ⟨_, rfl⟩
 rw [hq];unfold H9 at hq;rw [← hgf] at hq;generalize BI key { CF c 1 time with text := w.txt } = sg at *
 generalize IA key c (D5 l (BM c c.acts.length)) time = gq at *;generalize Gj key c time w.txt = r at *;obtain ⟨pa, pe⟩ := r;generalize D5 l (BM c c.acts.length) = P at *;generalize BM c c.acts.length = M at *;obtain ⟨ga, gerr⟩ := gq;simp only at hq kp kg
 have hszP : Ax 1 (P.map (AV.it .i64)) = true := Bh 1 (AV.it .i64) (fun _ => rfl) _
 by_cases h11 : pe = 11
 rotate_left
 ·obtain rfl : q = pa := by rw [← hq, if_pos h11]
  have n11 : (pe != 11) = true := B6 h11;refine Ai [64, 129, 130, 131, 50, 132] [] func66 ?_;refine run ?_;refine cp kd ?_;refine run ?_;refine cp kp ?_;refine Aa @n11 ?_;exact Ab
 rw [if_neg (fun h => h h11)] at hq
 have n11 : (pe != 11) = false := B7 h11;refine Ai [64, 129, 130, 131, 50, 132] [] func66 ?_;refine run ?_;refine cp kd ?_;refine run ?_;refine cp kp ?_;refine Aa @n11 ?_;refine cp km ?_;refine run ?_;refine cp kpu ?_;refine run ?_;refine AF (fun m e S => e 4 = .it .i64 time ∧ e 5 = .ptr 0 0 ∧ e 6 = .ptr 1 0 ∧ e 7 = .ptr 2 0 ∧ e 8 = .ptr 3 0 ∧ e 10 = .ptr 4 0 ∧ e 11 = .ptr 5 0 ∧ e 12 = .ptr 6 0 ∧ e 15 = Bn P ∧ S = [.cells [Bn ps, .sl .ro (l.map AH)], .cells (PQ c), .cells [.it .i64 key.secret, .it .i64 key.pub], .cells [.it .i64 w.who, .it .i64 w.kind, .it .i64 w.on, .it .i64 w.whom, .st w.txt, .it .i64 w.spoil], .cells IZ, .cells (FE (CF c 1 time)), .cells (FE pa)] ∧ ∃ i : Nat, e 16 = .it .i64 (i : Int) ∧ (∀ (j : Nat) (p : Int), j < i → P[j]? = some p → (p == 1) = false) ∧ i ≤ P.length ∧ m = P.length - i) P.length ⟨Ad, Ad, Ad, Ad, Ad, Ad, Ad, Ad, Ad, rfl, 0, Ad, fun j p h => absurd h (Nat.not_lt_zero _), by omega, rfl⟩ ?_
 rintro m e S ⟨s4, s5, s6, s7, s8, s10, s11, s12, s15, rfl, i, s16, hall, hi, rfl⟩
 rw [Ei s10];by_cases hlt : i < P.length
 ·have hg : P[i]? = some P[i] := List.getElem?_eq_getElem hlt
  have hlt' : (i : Int) < (P.length : Int) := by omega
  have w1 := Bx (k := i) (by omega)
  generalize P[i] = p at *;cases h1 : (p == 1) with
  | true =>
   have hany : P.any (fun p => p == 1) = true := List.any_eq_true.2 ⟨p, List.mem_of_getElem? hg, h1⟩
   obtain rfl : q = sg := by rw [← hq, if_pos hany]
   refine Aa (an @s4 (an @s5 (an @s6 (Aw @s7 @s8 @s10 @s11 @s12 @s15 @s16 @hlt' @hg @hszP @h1)))) ?_;refine cp ks ?_;refine Aa @s10 ?_;exact Ab
  | false =>
   refine Aa (an @s4 (an @s5 (an @s6 (an @s7 (Aw @s8 @s10 @s11 @s12 @s15 @s16 @hlt' @hg @hszP @h1 @w1))))) ?_;exact Ao (P.length - (i + 1)) (by omega) ⟨Ad, Ad, Ad, Ad, Ad, Ad, Ad, Ad, Ad, rfl, i + 1, Ad, (fun j p' hj hp => by
    by_cases ej : j = i
    ·subst ej; rw [hg] at hp; cases hp; exact h1
    ·exact hall j p' (by omega) hp), by omega, rfl⟩
 ·obtain rfl : i = P.length := by omega
  have hany : P.any (fun p => p == 1) = false := by
   rw [List.any_eq_false];intro p hp;obtain ⟨j, hj⟩ := List.mem_iff_getElem?.1 hp;rw [hall j p (List.getElem?_eq_some_iff.1 hj).1 hj]
   decide
  obtain rfl : q = ga := by rw [← hq, if_neg (by rw [hany]; decide)]
  have hlt' : ¬ (P.length : Int) < (P.length : Int) := by omega
  refine Aa (Aw @s4 @s5 @s6 @s7 @s8 @s10 @s11 @s12 @s15 @s16 @hlt') ?_;refine cp kg ?_;refine Aa (an @s10 @s12) ?_;exact Ab
end Pe
end
section
namespace Pe
open _root_.Go.Proofs.Tryz
open Go Go.RowKit Co Sg Ac It Sl Tp
set_option maxRecDepth 100000
set_option maxHeartbeats 8000000
theorem UF (a : Ac.Act) : (dg a).length ≤ 32 := by
 unfold dg It.digest;split
 ·exact Nat.zero_le _
 ·exact Nat.le_refl 32
theorem Ts : ∀ (n : Nat) (l : List Ac.Act) (c : Chn), c.prev.length ≤ 32 → (C3 n l c).prev.length ≤ 32
 | 0, _, _, h => h
 | n + 1, l, c, h => by
  unfold C3;split
  ·exact Ts n l _ (UF _)
  ·exact h
  ·exact h
theorem Zam (k : List Ac.Act) (id : By) : (Cl k id).prev.length ≤ 32 := by
 unfold Cl;split
 ·exact Ts _ _ _ (UF _)
 ·exact Nat.zero_le _
 ·exact Nat.zero_le _
theorem Z2 (k : Key) (c : Chn) (time : Int) (txt : By) : Sz (Gj k c time txt).1 := by
 rw [OA];split
 ·exact I3
 split
 ·exact I3
 split
 ·exact I3
 split
 ·exact I3
 ·exact I2 _ _
theorem ZbS (k : Key) (c : Chn) (ps : List Int) (time : Int) : Sz (Iy k c ps time) := by
 unfold Iy;simp only
 repeat' split
 all_goals first | exact I3 | exact I2 _ _
theorem YH (k : List Ac.Act) (c : Chn) (key : Key) (w : Wish) (time : Int) : Sz (H9 k c key w time) := by
 unfold H9;split
 ·exact Z2 _ _ _ _
 split
 ·exact I2 _ _
 ·exact ZbS _ _ _ _
theorem SH (k : List Ac.Act) (me time : Int) (w : Wish) : Sz (Gq k me time w) := by
 unfold Gq;simp only
 split
 ·unfold BC; exact I2 _ _
 split
 ·exact YH _ _ _ _ _
 ·exact I2 _ _
theorem SG (k : List Ac.Act) (me time : Int) (w : Wish) : (Gq k me time w).text.length ≤ 1000 := by
 have hs : ∀ key a, (BI key a).text.length ≤ 1000 := fun key a => by
  unfold BI;simp only
  split
  ·rename_i h
   rw [Bool.and_eq_true] at h;have := (C0 h.1).text;show a.text.length ≤ 1000
   change a.text.length ≤ 500 at this;omega
  ·exact Nat.zero_le _
 have hp : ∀ key c, (Gj key c time w.txt).1.text.length ≤ 1000 := fun key c => by
  rw [OA];split
  ·exact Nat.zero_le _
  split
  ·exact Nat.zero_le _
  split
  ·exact Nat.zero_le _
  split
  ·exact Nat.zero_le _
  ·exact hs _ _
 have hg : ∀ key c ps, (Iy key c ps time).text.length ≤ 1000 := fun key c ps => by
  unfold Iy;simp only
  repeat' split
  all_goals first | exact Nat.zero_le _ | exact hs _ _
 unfold Gq;simp only
 split
 ·unfold BC; exact hs _ _
 split
 ·unfold H9
  split
  ·exact hp _ _
  split
  ·exact hs _ _
  ·exact hg _ _ _
 ·exact hs _ _
theorem ZaR (k : List Ac.Act) (me time : Int) (w : Wish) : Sz (D7 k me time w) := by
 have h := SH k me time w;have ht := SG k me time w;have hid := MY (Br (IntKind.i64.wrap (w.who + 1)) 0).pub;unfold D7;simp only
 split
 ·exact ⟨h.author, h.target, h.group, h.text, h.tos, h.to, h.wraps⟩
 split
 ·exact ⟨h.author, h.target, h.group, h.text, h.tos, h.to, h.wraps⟩
 split
 ·refine ⟨h.author, h.target, h.group, ?_, h.tos, h.to, h.wraps⟩
  show ((Gq k me time w).text ++ [120]).length ≤ _
  rw [List.length_append, List.length_singleton];omega
 split
 ·refine ⟨?_, h.target, h.group, h.text, h.tos, h.to, h.wraps⟩
  show (CA _).length ≤ _
  omega
 split
 ·exact ⟨h.author, h.target, h.group, h.text, h.tos, h.to, h.wraps⟩
 ·exact h
theorem Zbq {a : Ac.Act} (h : Sz a) : Iz (Av a) := ⟨h, by show (0 : Nat) ≤ _; omega, by show (0 : Nat) ≤ _; omega, ⟨by show (0 : Nat) ≤ _; omega, by show (0 : Nat) ≤ _; omega, (fun s hs => nomatch hs)⟩⟩
theorem NP (n : Int) : CT (IntKind.i64.wrap n) := by show -9223372036854775808 ≤ _ ∧ _ ≤ _; rw [IntKind.wrap_i64]; omega
theorem ZcT (l : List Ac.Act) (c : Chn) (w : Wish) (kd time : Int) (hw : Wz w) (hid : c.id.length ≤ 16) : Sz (FX l c w (CF c kd time)) ∧ (FX l c w (CF c kd time)).to.length ≤ 1 ∧ (FX l c w (CF c kd time)).wraps.length ≤ 1 := by
 have htx := hw.txt;have hac := MY (Br w.whom 0).pub;have h0 : (0 : Nat) ≤ 140737488355328 := by omega
 have hi : c.id.length ≤ 140737488355328 := by omega
 have ht : w.txt.length ≤ 140737488355328 := by omega
 have ha : (B9 w.whom).length ≤ 140737488355328 := by show (CA _).length ≤ _; omega
 unfold FX;split
 ·exact ⟨⟨hi, h0, h0, ht, (fun s hs => nomatch hs), h0, h0⟩, Nat.zero_le _, Nat.zero_le _⟩
 split
 ·exact ⟨⟨hi, h0, h0, ht, (fun s hs => nomatch hs), h0, h0⟩, Nat.zero_le _, Nat.zero_le _⟩
 split
 ·exact ⟨⟨hi, h0, h0, h0, (fun s hs => nomatch hs), h0, h0⟩, Nat.zero_le _, Nat.zero_le _⟩
 split
 ·exact ⟨⟨hi, h0, h0, h0, (fun s hs => nomatch hs), h0, h0⟩, Nat.zero_le _, Nat.zero_le _⟩
 split
 ·exact ⟨⟨hi, h0, h0, h0, (fun s hs => nomatch hs), h0, h0⟩, Nat.zero_le _, Nat.zero_le _⟩
 split
 ·exact ⟨⟨hi, h0, h0, ht, (fun s hs => nomatch hs), h0, h0⟩, Nat.zero_le _, Nat.zero_le _⟩
 split
 ·refine ⟨⟨hi, h0, by show (7 : Nat) ≤ _; omega, h0, fun s hs => ?_, by show (1 : Nat) ≤ _; omega, h0⟩, Nat.le_refl _, Nat.zero_le _⟩
  rw [List.mem_singleton.1 hs];exact ha
 split
 ·exact ⟨⟨hi, h0, h0, h0, (fun s hs => nomatch hs), h0, h0⟩, Nat.zero_le _, Nat.zero_le _⟩
 ·exact ⟨⟨hi, ha, h0, h0, (fun s hs => nomatch hs), h0, h0⟩, Nat.zero_le _, Nat.zero_le _⟩
theorem ZaS (ps : List Int) (l : List Ac.Act) (me time : Int) (w : Wish) (hl : l.length ≤ 20) (hr : Bt l) (hw : Wz w) : AC prog 26 [BN ps l, .it .i64 me, .it .i64 time, DI w] [] (As (D7 l me time w)) [] := by
 have k1 := JJ w.who hw.who;have k2 := Nl ps l (B9 w.who) (by omega) hr
 obtain ⟨hok, hidc, _⟩ := MD hr (B9 w.who);have hprev := Zam l (B9 w.who);have haid : (B9 w.who).length ≤ 16 := MY _;have kb := PW w.who me time hw.who;have kkd := Zbh w hw.kind;have hcl := hok.len;have hck := hok.klen;have kps := EZ w.spoil 12 hw.spoil (by decide)
 have hps := Gk w.spoil (m := 12) (by decide)
 have hmz := SH l me time w;have hmt := SG l me time w;have kid := Pa (Gq l me time w) (Zbq hmz);have kps2 := fun n => EZ (IntKind.i64.wrap (n + 1)) 1000 (NP _) (by decide)
 have kac2 := JJ (IntKind.i64.wrap (w.who + 1)) (NP _);obtain ⟨q, hq⟩ : ∃ q, D7 l me time w = q := ⟨_, rfl⟩
 rw [hq];unfold D7 at hq;simp only at hq
 obtain ⟨md, hmd⟩ : ∃ md, Gq l me time w = md := ⟨_, rfl⟩
 rw [hmd] at hq kid hmt;unfold Gq at hmd;simp only at hmd
 rw [← hidc] at haid;generalize hC : Cl l (B9 w.who) = c at *;refine Ai [22, 62, 17, 63, 48, 65, 64, 66, 67, 50, 8, 68] [] func26 ?_;rw [F7, F7, F7];refine Wv (fun e S => e 1 = .it .i64 me ∧ e 7 = .ptr 1 0 ∧ e 8 = .ptr 2 0 ∧ e 10 = .ptr 4 0 ∧ ∃ T : Ae, S = .cells [Bn ps, .sl .ro (l.map AH)] :: .cells [.it .i64 w.who, .it .i64 w.kind, .it .i64 w.on, .it .i64 w.whom, .st w.txt, .it .i64 w.spoil] :: .cells IZ :: .cells (PQ c) :: .cells (FE md) :: T) ?_ ?_
 ·intro Kt hKt
  by_cases h0 : c.acts = []
  ·rw [if_pos h0] at hmd
   rw [hmd] at kb;have q0 : ¬ (c.acts.length : Int) > 0 := by rw [h0]; decide
   refine run ?_;refine cp k1 ?_;refine run ?_;refine cp k2 ?_;refine run ?_;refine cp kb ?_;refine Aa @q0 ?_;exact hKt _ _ ⟨Ad, Ad, Ad, Ad, [], rfl⟩
  ·rw [if_neg h0] at hmd
   have hcp : 0 < c.acts.length := List.length_pos_iff.2 h0;have q0 : (c.acts.length : Int) > 0 := by omega
   have hk0 := hok.key h0;have hkl : 0 < c.keys.length := List.length_pos_iff.2 hk0;have kmv := Sy c (by omega) hk0
   have kky := MU w.who (c.keys.length - 1) hw.who (by omega)
   have hki := ND w.who (c.keys.length - 1);have kdr := PT c (D8 w) time (by omega)
   have hrc : Bt c.acts := hok.acts;by_cases h1 : D8 w < 0
   ·rw [if_pos h1] at hmd
    have kse := YI ps l c (Br w.who (c.keys.length - 1)) w time (by omega) hr hw hki.1 (by omega) (by omega) hrc (by omega) (by omega)
    rw [hmd] at kse;have q1 : D8 w < 0 := h1;generalize Br w.who (c.keys.length - 1) = kk at *;generalize D8 w = kd at *;generalize BC w.who me time = bg at *;generalize hDr : CF c kd time = dr at *;have hdk : dr.kind = kd := by rw [← hDr]; rfl
    have q1' : dr.kind < 0 := by rw [hdk]; exact q1
    refine run ?_;refine cp k1 ?_;refine run ?_;refine cp k2 ?_;refine run ?_;refine cp kb ?_;refine Aa @q0 ?_;refine cp kmv ?_;refine run ?_;refine cp kky ?_;refine run ?_;refine cp kkd ?_;refine run ?_;refine cp kdr ?_;refine Aa @q1' ?_;refine cp kse ?_;refine run ?_;exact hKt _ _ ⟨Ad, Ad, Ad, Ad, _, rfl⟩
   ·rw [if_neg h1] at hmd
    have kfi := Zch ps l c w (CF c (D8 w) time) (by omega) hr hw (by omega) (by omega) h0 hk0 hrc
    obtain ⟨hfs, hft, hfw⟩ := ZcT l c w (D8 w) time hw haid;have ksg := Lm (Br w.who (c.keys.length - 1)) (FX l c w (CF c (D8 w) time)) hfs (by omega) (by omega) (by omega)
    rw [hmd] at ksg;generalize FX l c w (CF c (D8 w) time) = fl at *;have q1 : ¬ D8 w < 0 := h1;generalize Br w.who (c.keys.length - 1) = kk at *;generalize D8 w = kd at *;generalize BC w.who me time = bg at *;generalize hDr : CF c kd time = dr at *;have hdk : dr.kind = kd := by rw [← hDr]; rfl
    have q1' : ¬ dr.kind < 0 := by rw [hdk]; exact q1
    refine run ?_;refine cp k1 ?_;refine run ?_;refine cp k2 ?_;refine run ?_;refine cp kb ?_;refine Aa @q0 ?_;refine cp kmv ?_;refine run ?_;refine cp kky ?_;refine run ?_;refine cp kkd ?_;refine run ?_;refine cp kdr ?_;refine Aa @q1' ?_;refine cp kfi ?_;refine run ?_;refine cp ksg ?_;refine run ?_;exact hKt _ _ ⟨Ad, Ad, Ad, Ad, _, rfl⟩
 ·rintro e S ⟨s1, s7, s8, s10, T, rfl⟩
  rw [Ei s8];have kps2 := kps2 md.sig.s;clear hmd hC k1 k2 kb kkd hok hmz hprev haid hidc;obtain ⟨a1, a2, a3, a4, a5, a6, a7, a8, a9, a10, a11, ⟨b1, b2, b3⟩, a12, a13, a14, a15, ⟨g1, g2⟩⟩ := md;simp only at hq kps2 hmt
  generalize dg _ = dd at *;generalize B9 (IntKind.i64.wrap (w.who + 1)) = ac at *;generalize AZ (IntKind.i64.wrap (g2 + 1)) 1000 = pk at *;generalize AZ w.spoil 12 = sp at *;refine Aa (A4 @s1 @s7 @s8 @s10) ?_;refine cp kps ?_;by_cases c0 : sp = 0
  ·rw [if_pos c0] at hq
   subst hq c0;refine Aa (A4 @s1 @s7 @s8 @s10) ?_;refine cp kps2 ?_;refine Aa (A4 @s1 @s7 @s8 @s10) ?_;exact Am
  rw [if_neg c0] at hq;have q0 : (sp == 0) = false := beq_eq_false_iff_ne.2 c0;by_cases c1 : sp = 1
  ·rw [if_pos c1] at hq
   subst hq c1;refine Aa (A4 @s1 @s7 @s8 @s10) ?_;exact Am
  rw [if_neg c1] at hq;have q1 : (sp == 1) = false := beq_eq_false_iff_ne.2 c1;by_cases c2 : sp = 2
  ·rw [if_pos c2] at hq
   subst hq c2;refine Aa (A4 @s1 @s7 @s8 @s10) ?_;exact Am
  rw [if_neg c2] at hq;have q2 : (sp == 2) = false := beq_eq_false_iff_ne.2 c2;by_cases c3 : sp = 3
  ·rw [if_pos c3] at hq
   subst hq c3;refine Aa (A4 @s1 @s7 @s8 @s10) ?_;refine cp kac2 ?_;refine Aa (A4 @s1 @s7 @s8 @s10) ?_;exact Am
  rw [if_neg c3] at hq;have q3 : (sp == 3) = false := beq_eq_false_iff_ne.2 c3;by_cases c4 : sp = 4
  ·rw [if_pos c4] at hq
   subst hq c4;refine Aa (A4 @s1 @s7 @s8 @s10) ?_;refine cp kid ?_;refine Aa (A4 @s1 @s7 @s8 @s10) ?_;exact Am
  rw [if_neg c4] at hq;have q4 : (sp == 4) = false := beq_eq_false_iff_ne.2 c4;subst hq;refine Aa (A9 @s1 @s7 @s8 @s10 @q0 @q1 @q2 @q3 @q4) ?_;exact Am
end Pe
end
section
namespace Pe
open _root_.Go.Proofs.Tryz
open Go Go.RowKit Co Sg Ac It Sl Tp
set_option maxRecDepth 100000
set_option maxHeartbeats 8000000
theorem JZ (n : Nat) (h : n < 4) : AC prog 9 [.it .i64 (n : Int)] [] (Ea (Bc n)) [] := by
 have k1 := EZ (n : Int) 4 (by omega) (by decide)
 have hp : AZ (n : Int) 4 = (n : Int) := by
  have := Gk (n : Int) (m := 4) (by decide)
  show pickN47 (n : Int) 4 = n
  unfold pickN47;rw [if_neg (by rw [Int.tmod_eq_emod_of_nonneg (by omega)]; omega), Int.tmod_eq_emod_of_nonneg (by omega)]
  omega
 rw [hp] at k1;have k2 := RA (L5 n) (by match n with | 0 => decide | 1 => decide | 2 => decide | n + 3 => exact (by decide : ([115, 51] : By).length ≤ 100000000))
 change AC _ _ _ _ (Ea (Bc n)) _ at k2;have hg : ([AV.st [115, 48], .st [115, 49], .st [115, 50], .st [115, 51]] : List AV)[n]? = some (.st (L5 n)) := by
  match n, h with
  | 0, _ => rfl
  | 1, _ => rfl
  | 2, _ => rfl
  | 3, _ => rfl
 have hn4 : (n : Int) < 4 := by omega
 generalize Bc n = k at *;generalize L5 n = s at *;refine Ai [8, 30] [] func9 ?_;refine run ?_;refine cp k1 ?_;refine Aa (an @hg @hn4) ?_;refine cp k2 ?_;refine run ?_;exact Ab
theorem NY : AC prog 13 [] [] (Bn CI) [] := by
 have k0 := JZ 0 (by decide)
 have k1 := JZ 1 (by decide)
 have k2 := JZ 2 (by decide)
 have k3 := JZ 3 (by decide)
 show AC _ _ _ _ (.sl .ro [.it .i64 (Bc 0).pub, .it .i64 (Bc 1).pub, .it .i64 (Bc 2).pub, .it .i64 (Bc 3).pub]) _
 generalize Bc 0 = a at *;generalize Bc 1 = b at *;generalize Bc 2 = c at *;generalize Bc 3 = d at *;change AC _ _ [.it .i64 0] _ _ _ at k0;change AC _ _ [.it .i64 1] _ _ _ at k1;change AC _ _ [.it .i64 2] _ _ _ at k2;change AC _ _ [.it .i64 3] _ _ _ at k3;refine Ai [9] [] func13 ?_;refine run ?_;refine cp k0 ?_;refine run ?_;refine cp k1 ?_;refine run ?_;refine cp k2 ?_;refine run ?_;refine cp k3 ?_;refine run ?_;exact Am
theorem QJ (l : List Wish) : Ax 6 (l.map DI) = true := Bh 6 DI (fun _ => rfl) _
theorem Zea (l : List Wish) (most : Int) (hl : l.length ≤ 140737488355328) : AC prog 5 [.sl .ro (l.map DI), .it .i64 most] [] (.bo (decide ((l.length : Int) ≤ most) && l.all fun w => decide (w.txt.length ≤ 200))) [] := by
 have hsz := QJ l;obtain ⟨q, hq⟩ : ∃ q, (decide ((l.length : Int) ≤ most) && l.all fun w => decide (w.txt.length ≤ 200)) = q := ⟨_, rfl⟩
 rw [hq];refine Ai [] [] func5 ?_;by_cases h : (l.length : Int) > most
 ·obtain rfl : q = false := by rw [← hq, decide_eq_false (by omega), Bool.false_and]
  refine Aa @h ?_;exact Ab
 rw [decide_eq_true (by omega), Bool.true_and] at hq
 refine Aa @h ?_;refine AF (fun m e S => e 0 = .sl .ro (l.map DI) ∧ S = [] ∧ ∃ k : Nat, e 5 = .it .i64 (k : Int) ∧ (∀ (j : Nat) (w : Wish), j < k → l[j]? = some w → w.txt.length ≤ 200) ∧ k ≤ l.length ∧ m = l.length - k) l.length ⟨Ad, rfl, 0, Ad, fun j w h => absurd h (Nat.not_lt_zero _), by omega, rfl⟩ ?_
 rintro m e S ⟨s0, rfl, k, s5, hall, hk, rfl⟩
 by_cases hlt : k < l.length
 ·have hg : l[k]? = some l[k] := List.getElem?_eq_getElem hlt
  have hlt' : (k : Int) < (l.length : Int) := by omega
  have w1 := Bx (k := k) (by omega)
  have hin := List.getElem_mem hlt;generalize l[k] = w at *;by_cases hw : (w.txt.length : Int) > 200
  ·obtain rfl : q = false := by
    rw [← hq, List.all_eq_false];exact ⟨w, hin, by simp; omega⟩
   refine Aa (A6 @s0 @s5 @hlt' @hg @hsz @hw) ?_;exact Ab
  ·refine Aa (A7 @s0 @s5 @hlt' @hg @hsz @hw @w1) ?_
   exact Ao (l.length - (k + 1)) (by omega) ⟨Ad, rfl, k + 1, Ad, (fun j w' hj hp => by
    by_cases ej : j = k
    ·subst ej; rw [hg] at hp; cases hp; omega
    ·exact hall j w' (by omega) hp), by omega, rfl⟩
 ·obtain rfl : k = l.length := by omega
  obtain rfl : q = true := by
   rw [← hq, List.all_eq_true];intro w hw;obtain ⟨j, hj⟩ := List.mem_iff_getElem?.1 hw;exact decide_eq_true (hall j w (List.getElem?_eq_some_iff.1 hj).1 hj)
  have hlt' : ¬ (l.length : Int) < (l.length : Int) := by omega
  refine Aa (A3 @s0 @s5 @hlt') ?_;exact Ab
theorem XQ (ps : List Int) (l : List Ac.Act) (w : Wish) (hl : l.length ≤ 20) (hr : Bt l) (hw : Wz w) : AC prog 25 [BN ps l, DI w] [] (.it .i64 (Dp l w)) [] := by
 have k1 := JJ w.who hw.who;have k2 := Nl ps l (B9 w.who) (by omega) hr
 have k3 := EZ w.whom 3 hw.whom (by decide)
 obtain ⟨hok, _, _⟩ := MD hr (B9 w.who);unfold Dp;generalize Cl l (B9 w.who) = c at *;generalize B9 w.who = id at *;generalize AZ w.whom 3 = pk at *;have hck := hok.klen;have hszk := Ju c.keys;by_cases h0 : c.keys = []
 ·rw [if_pos h0]
  have hkl : c.keys.length = 0 := by rw [h0]; rfl
  have q0 : ((c.keys.length : Int) == 0) = true := beq_iff_eq.2 (by omega)
  refine Ai [22, 62, 8] [] func25 ?_;refine run ?_;refine cp k1 ?_;refine run ?_;refine cp k2 ?_;refine Aa @q0 ?_;refine cp k3 ?_;refine run ?_;exact Ab
 ·rw [if_neg h0]
  have hkl : 0 < c.keys.length := List.length_pos_iff.2 h0;have q0 : ((c.keys.length : Int) == 0) = false := beq_eq_false_iff_ne.2 (by omega)
  have hlk := MT h0;have w0 : IntKind.i64.wrap ((c.keys.length : Int) - 1) = ((c.keys.length - 1 : Nat) : Int) := by rw [wrap64 (by omega) (by omega)]; omega
  have hkb : ((c.keys.length - 1 : Nat) : Int) < (c.keys.length : Int) := by omega
  generalize Do c = lk at *;refine Ai [22, 62, 8] [] func25 ?_;refine run ?_;refine cp k1 ?_;refine run ?_;refine cp k2 ?_;refine Aa (A5 @q0 @hlk @hszk @w0 @hkb) ?_;exact Ab
theorem XT (l : List Ac.Act) (hl : l.length ≤ 1000) : AC prog 6 [.sl .ro (l.map AH), .it .i64 0] [] (BY (Dk 0 (l.map Av))) [] := by
 have hsz := DP l;have key : ∀ (l : List Ac.Act) (b : Int) (k : Nat) (h : k < l.length), (Dk b (l.map Av)).take (k + 1) = (Dk b (l.map Av)).take k ++ [⟨b + (k : Int), Av l[k]⟩] := by
  intro l;induction l with
  | nil => intro b k h; simp at h
  | cons a l ih =>
   intro b k h;cases k with
   | zero => simp [Dk]
   | succ k =>
    rw [List.map_cons, Dk, List.take_succ_cons, List.take_succ_cons, ih (b + 1) k (by simpa using h), List.cons_append]
    congr 3
    simp only [List.getElem_cons_succ];congr 1
    omega
 have hlen : (Dk 0 (l.map Av)).length = l.length := by rw [LY, List.length_map]
 have key := fun k h => key l 0 k h
 generalize Dk 0 (l.map Av) = E at *;refine Ai [] [] func6 ?_;refine run ?_;refine C2 (fun m e S => e 0 = .sl .ro (l.map AH) ∧ e 1 = .it .i64 0 ∧ ∃ (k : Nat) (acc : List It.Entry) (T : Ae), e 6 = .it .i64 (k : Int) ∧ e 5 = .sl (.own 0) (acc.map Eu) ∧ S = .buf acc.length 88 50 :: T ∧ acc = E.take k ∧ k ≤ l.length ∧ m = l.length - k) l.length _ _ (Ay.reserve 0 5 (es := []) (by rfl) 88 50)
  ⟨Ad, Ad, 0, [], [], Ad, Ad, rfl, by simp, by omega, rfl⟩ ?_
 rintro m e S ⟨s0, s1, k, acc, T, s6, s5, rfl, hacc, hk, rfl⟩
 have hal : acc.length = k := by rw [hacc, List.length_take]; omega
 have hsa := Fa acc;by_cases hlt : k < l.length
 ·have hg : l[k]? = some l[k] := List.getElem?_eq_getElem hlt
  have hst := key k hlt;rw [← hacc] at hst;have hlt' : (k : Int) < (l.length : Int) := by omega
  have w1 := Bx (k := k) (by omega)
  have w0 : IntKind.i64.wrap (0 + (k : Int)) = 0 + (k : Int) := wrap64 (by omega) (by omega)
  generalize l[k] = a at *;refine Aa (B1 @s0 @s1 @s6 @s5 @hlt' @hg @hsz @hsa @w0 @w1) ?_;exact Ao (l.length - (k + 1)) (by omega) ⟨Ad, Ad, k + 1, acc ++ [⟨0 + (k : Int), Av a⟩], _, Ad, by rw [List.map_append]; exact Ad, by rw [List.length_append]; rfl, hst.symm, by omega, rfl⟩
 ·obtain rfl : k = l.length := by omega
  rw [List.take_of_length_le (by omega)] at hacc
  subst hacc;have hlt' : ¬ (l.length : Int) < (l.length : Int) := by omega
  refine Aa (A5 @s0 @s1 @s6 @s5 @hlt') ?_;exact Am
theorem ZdK {k : List Ac.Act} {me : Int} {a : Ac.Act} (h : Fz k me a = 0) : Ac.right a = true := by
 cases hr : Ac.right a with
 | true => rfl
 | false =>
  unfold Fz at h;simp [hr] at h
theorem Tr (i : Int) (w : Wish) (l : List Wish) (k out : List Ac.Act) : EM i (w :: l) k out = if Fz k (Dp k w) (D7 k (Dp k w) i w) = 0 then EM (i + 1) l (Eh k (D7 k (Dp k w) i w)).1 (out ++ [D7 k (Dp k w) i w]) else EM (i + 1) l k out := rfl
theorem ZbO (ws : List Wish) (hl : ws.length ≤ 16) (hw : ∀ w ∈ ws, Wz w) : AC prog 7 [.sl .ro (ws.map DI)] [] (.sl .ro ((EM 0 ws [] []).map AH)) [] := by
 have hszw := QJ ws;have kp := NY;have kn := Zbd CI;have hpl : CI.length ≤ 1000000 := by decide
 generalize CI = ps at *;refine Ai [13, 24, 25, 26, 27, 28, 29] [] func7 ?_;refine run ?_;refine cp kp ?_;refine run ?_;refine cp kn ?_;refine run ?_;refine C2 (fun m e S => e 0 = .sl .ro (ws.map DI) ∧ e 3 = .ptr 0 0 ∧ ∃ (i : Nat) (k out : List Ac.Act) (T : Ae), e 5 = .it .i64 (i : Int) ∧ e 4 = .sl (.own 1) (out.map AH) ∧ S = .cells [Bn ps, .sl .ro (k.map AH)] :: .buf out.length 75 49 :: T ∧ EM 0 ws [] [] = EM (i : Int) (ws.drop i) k out ∧ Bt k ∧ k.length ≤ i ∧ out.length ≤ i ∧ i ≤ ws.length ∧ m = ws.length - i) ws.length _ _ (Ay.reserve 0 4 (es := []) (by rfl) 75 49)
  ⟨Ad, Ad, 0, [], [], [], Ad, Ad, rfl, rfl, (fun a h => nomatch h), by simp, by simp, by omega, rfl⟩ ?_
 rintro m e S ⟨s0, s3, i, k, out, T, s5, s4, rfl, hgr, hrk, hkl, hol, hi, rfl⟩
 have hsa := DP out;have hT1 : ∀ y : SObj, (T ++ [y])[T.length]? = some y := fun y => by simp
 have hT2 : ∀ y z : SObj, (T ++ [y]).set T.length z = T ++ [z] := fun y z => by simp
 by_cases hlt : i < ws.length
 ·have hg : ws[i]? = some ws[i] := List.getElem?_eq_getElem hlt
  have hdr : ws.drop i = ws[i] :: ws.drop (i + 1) := List.drop_eq_getElem_cons hlt;have hlt' : (i : Int) < (ws.length : Int) := by omega
  have w1 := Bx (k := i) (by omega)
  have hwz := hw ws[i] (List.getElem_mem hlt);rw [hdr, Tr] at hgr;generalize ws[i] = w at *;have k1 := XQ ps k w (by omega) hrk hwz
  have k2 := ZaS ps k (Dp k w) (i : Int) w (by omega) hrk hwz
  have hsz := ZaR k (Dp k w) (i : Int) w;have k3 := ZdL ps k (Dp k w) (D7 k (Dp k w) (i : Int) w) (by omega) hrk hsz
  have hcr := ZdK (k := k) (me := Dp k w) (a := D7 k (Dp k w) (i : Int) w);generalize D7 k (Dp k w) (i : Int) w = a at *;generalize Dp k w = me at *;have k4 := OJ a;by_cases hc : Fz k me a = 0
  ·rw [if_pos hc] at hgr
   have hra := hcr hc;have k5 := Zbn ps k a (by omega) hrk hra
   have hrk' := Zew hrk hra;have hkl' := Zey k a;rw [hc] at k3;have q0 : ((0 : Int) == 0) = true := rfl;generalize Eh k a = r at *;obtain ⟨k', b⟩ := r;simp only at hgr hrk' hkl' k5
   refine Aa (A7 @s0 @s3 @s5 @s4 @hlt' @hg @hszw) ?_;refine cp k1 ?_;refine Aa (A7 @s0 @s3 @s5 @s4 @hlt' @hg @hszw) ?_;refine cp k2 ?_;refine Aa (A6 @s0 @s3 @s5 @s4 @hT1 @hT2) ?_;refine cp k3 ?_;refine Aa (A7 @s0 @s3 @s5 @s4 @hT1 @hT2 @q0) ?_;refine cp k4 ?_;refine Aa (A7 @s0 @s3 @s5 @s4 @hT1 @hT2 @hsa) ?_;refine cp k4 ?_;refine Aa (A6 @s0 @s3 @s5 @s4 @hT1 @hT2) ?_;refine cp k5 ?_;refine Aa (A5 @s0 @s3 @s5 @s4 @w1) ?_;exact Ao (ws.length - (i + 1)) (by omega) ⟨Ad, Ad, i + 1, k', out ++ [a], _, Ad, by rw [List.map_append]; exact Ad, by rw [List.length_append]; rfl, hgr, hrk', by omega, by rw [List.length_append, List.length_singleton]; omega, by omega, rfl⟩
  ·rw [if_neg hc] at hgr
   have q0 : (Fz k me a == 0) = false := beq_eq_false_iff_ne.2 hc;generalize Fz k me a = ck at *;refine Aa (A7 @s0 @s3 @s5 @s4 @hlt' @hg @hszw) ?_;refine cp k1 ?_;refine Aa (A7 @s0 @s3 @s5 @s4 @hlt' @hg @hszw) ?_;refine cp k2 ?_;refine Aa (A6 @s0 @s3 @s5 @s4 @hT1 @hT2) ?_;refine cp k3 ?_;refine Aa (A8 @s0 @s3 @s5 @s4 @hT1 @hT2 @q0 @w1) ?_;exact Ao (ws.length - (i + 1)) (by omega) ⟨Ad, Ad, i + 1, k, out, _, Ad, Ad, rfl, hgr, hrk, by omega, by omega, by omega, rfl⟩
 ·obtain rfl : i = ws.length := by omega
  rw [List.drop_length] at hgr;have hgr : EM 0 ws [] [] = out := hgr;have hlt' : ¬ (ws.length : Int) < (ws.length : Int) := by omega
  rw [hgr];refine Aa (A5 @s0 @s3 @s5 @s4 @hlt') ?_;exact Am
end Pe
end
section
namespace Pe
open _root_.Go.Proofs.Tryz
open Go Go.RowKit Co Sg Ac It Sl
set_option maxRecDepth 100000
set_option maxHeartbeats 4000000
theorem Zo (e : It.Entry) (h : Iz e.item) : AC prog 147 [Eu e] [] (.st (Cy e)) [] := by
 refine Ai [245, 244] [] func147 ?_;have hl := Uj e;have k1 := Zci e h;have k2 := Zn (Da e) (by omega)
 refine run ?_;refine cp k1 ?_;refine run ?_;refine cp k2 ?_;refine run ?_;exact Ab
theorem Zm (l : List It.Entry) (hl : l.length ≤ 1000000) (hz : ∀ e ∈ l, Iz e.item) : AC prog 79 [BY l] [] (At (l.map Cy)) [] := by
 refine Ai [147] [] func79 ?_;have hsz := Fa l;refine run ?_;refine C2 (fun m e S => e 0 = BY l ∧ ∃ (k : Nat) (acc : List By) (T : Ae), e 4 = .it .i64 (k : Int) ∧ e 3 = .sl (.own 0) (acc.map .st) ∧ S = .buf acc.length 9 1 :: T ∧ acc = (l.take k).map Cy ∧ k ≤ l.length ∧ m = l.length - k) l.length _ _ (Ay.reserve 0 3 (es := []) (by rfl) 9 1)
  ⟨Ad, 0, [], [], Ad, Ad, rfl, by simp, by omega, rfl⟩ ?_
 rintro m e S ⟨s0, k, acc, T, s4, s3, rfl, hacc, hk, rfl⟩
 have hT1 : ∀ y : SObj, (T ++ [y])[T.length]? = some y := fun y => by simp
 have hT2 : ∀ y z : SObj, (T ++ [y]).set T.length z = T ++ [z] := fun y z => by simp
 have hal : acc.length = k := by rw [hacc, List.length_map, List.length_take, Nat.min_eq_left hk]
 by_cases hlt : k < l.length
 ·have hg : l[k]? = some l[k] := List.getElem?_eq_getElem hlt
  have hzk := hz l[k] (List.getElem_mem hlt);have hst : acc ++ [Cy l[k]] = (l.take (k + 1)).map Cy := by rw [List.take_succ_eq_append_getElem hlt, List.map_append, ← hacc]; rfl
  generalize l[k] = x at *;have kx := Zo x hzk;refine Aa (A7 @s0 @s4 @s3 @hg @hsz @hT1 @hT2) ?_;refine cp kx ?_;refine Aa (A3 @s0 @s4 @s3) ?_;exact Ao (l.length - (k + 1)) (by omega) ⟨Ad, k + 1, acc ++ [Cy x], _, Ad, by rw [List.map_append]; exact Ad, by rw [List.length_append]; rfl, hst, by omega, rfl⟩
 ·obtain rfl : k = l.length := by omega
  rw [List.take_length] at hacc;subst hacc;refine Aa (A3 @s0 @s4 @s3) ?_;exact Am
theorem Y7 (l : List It.Entry) (hl : l.length ≤ 1000000) (hz : ∀ e ∈ l, Iz e.item) : AC prog 31 [BY l] [] (.st (BG l)) [] := by
 refine Ai [79, 78] [] func31 ?_;have k1 := Zm l hl hz;have k2 := Y6 l.length (l.map Cy) (by simp) (by simp; omega) (fun x hx => by rw [MS l x hx]; omega)
 refine run ?_;refine cp k1 ?_;refine run ?_;refine cp k2 ?_;refine run ?_;exact Ab
end Pe
end
section
namespace Pe
open _root_.Go.Proofs.Tryz
open Go Go.RowKit Co Sg Ac It Sl
set_option maxRecDepth 100000
set_option maxHeartbeats 4000000
theorem Zb4 (h : Head) : AC prog 32 [EL h] [] (.bo (BJ h)) [] := by
 refine Ar [] [] func32 ?_;have hf : ¬ ((0 ≤ h.server ∧ h.server ≤ 19) ∧ (0 ≤ h.size ∧ h.size ≤ 1073741824) ∧ (0 ≤ h.time ∧ h.time ≤ 1099511627776) ∧ h.root.length = 32 ∧ (0 ≤ h.sig.e ∧ h.sig.e ≤ 2305843009213693949) ∧ (0 ≤ h.sig.s ∧ h.sig.s ≤ 2305843009213693949)) → BJ h = false := fun hn => Bool.eq_false_iff.2 fun r => hn (EX.1 r)
 by_cases h1 : 0 ≤ h.server
 rotate_left
 ·rw [hf (by omega)]
  refine run ?_;exact Ab
 by_cases h2 : h.server < 20
 rotate_left
 ·rw [hf (by omega)]
  refine run ?_;exact Ab
 by_cases h3 : 0 ≤ h.size
 rotate_left
 ·rw [hf (by omega)]
  refine run ?_;exact Ab
 by_cases h4 : h.size ≤ 1073741824
 rotate_left
 ·rw [hf (by omega)]
  refine run ?_;exact Ab
 by_cases h5 : 0 ≤ h.time
 rotate_left
 ·rw [hf (by omega)]
  refine run ?_;exact Ab
 by_cases h6 : h.time ≤ 1099511627776
 rotate_left
 ·rw [hf (by omega)]
  refine run ?_;exact Ab
 by_cases h7 : h.root.length = 32
 rotate_left
 ·have h7' : ¬ (h.root.length : Int) = 32 := by omega
  rw [hf (by omega)]
  refine Aa @h7' ?_;exact Ab
 have h7' : (h.root.length : Int) = 32 := by omega
 by_cases h8 : 0 ≤ h.sig.e
 rotate_left
 ·rw [hf (by omega)]
  refine Aa @h7' ?_;exact Ab
 by_cases h9 : h.sig.e ≤ 2305843009213693949
 rotate_left
 ·rw [hf (by omega)]
  refine Aa @h7' ?_;exact Ab
 by_cases h10 : 0 ≤ h.sig.s
 rotate_left
 ·rw [hf (by omega)]
  refine Aa @h7' ?_;exact Ab
 by_cases h11 : h.sig.s ≤ 2305843009213693949
 rotate_left
 ·rw [hf (by omega)]
  refine Aa @h7' ?_;exact Ab
 rw [EX.2 (by omega)]
 refine Aa @h7' ?_;exact Ab
theorem Zcm (h : Head) (hr : BJ h = true) : AC prog 35 [EL h] [] (.st (DT h)) [] := by
 refine Ar [77, 80] [] func35 ?_;have hh := EX.1 hr;have n1 := Aj h.server (by omega)
 have n2 := Aj h.size (by omega)
 have n3 := Aj h.time (by omega)
 have t1 := AG (s := h.root) (by omega)
 have tw : (text I0).length = 5 := rfl;unfold DT;refine run ?_;refine cp (Bq I0 (by simp)) ?_
 refine run ?_;refine cp (AL h.server (by omega)) ?_
 refine run ?_;refine cp (AL h.size (by omega)) ?_
 refine run ?_;refine cp (Bq h.root (by omega)) ?_
 refine run ?_;refine cp (AL h.time (by omega)) ?_
 refine run ?_;exact Ab
end Pe
end
section
namespace Pe
open _root_.Go.Proofs.Tryz
open Go Go.RowKit Co Sg Ac It Sl
set_option maxRecDepth 100000
set_option maxHeartbeats 4000000
theorem TX (k : Key) (server : Int) (l : List It.Entry) (time : Int) (hk : -9223372036854775808 ≤ k.secret ∧ k.secret ≤ 9223372036854775807) (hl : l.length ≤ 1000000) (hz : ∀ e ∈ l, Iz e.item) :
  AC prog 10 [Ea k, .it .i64 server, BY l, .it .i64 time] [] (EL (CL k server l time)) [] := by
 refine Ai [31, 32, 33, 35, 34] [] func10 ?_;have k1 := Mq k hk;have k2 := Y7 l hl hz;have k3 := Zb4 ⟨server, l.length, BG l, time, Bl⟩;unfold CL;cases hr : k.right with
 | false =>
  rw [if_neg (by simp)]
  rw [hr] at k1;cases hh : BJ ⟨server, l.length, BG l, time, Bl⟩ with
  | false =>
   rw [hh] at k3;refine run ?_;refine cp k2 ?_;refine run ?_;refine cp k3 ?_;refine run ?_;refine cp k1 ?_;refine run ?_;exact Ab
  | true =>
   rw [hh] at k3;refine run ?_;refine cp k2 ?_;refine run ?_;refine cp k3 ?_;refine run ?_;refine cp k1 ?_;refine run ?_;exact Ab
 | true =>
  rw [if_pos rfl];rw [hr] at k1;cases hh : BJ ⟨server, l.length, BG l, time, Bl⟩ with
  | false =>
   rw [hh] at k3;simp only [hh, Bool.false_eq_true, if_false];refine run ?_;refine cp k2 ?_;refine run ?_;refine cp k3 ?_;refine run ?_;refine cp k1 ?_;refine run ?_;exact Ab
  | true =>
   rw [hh] at k3;simp only [hh, if_true];have k4 := Zcm ⟨server, l.length, BG l, time, Bl⟩ hh;have hc := UT hh;have k5 := Rn k (DT ⟨server, l.length, BG l, time, Bl⟩) (by omega) hk
   generalize DT ⟨server, l.length, BG l, time, Bl⟩ = c at *;generalize CX k c = sg at *;refine run ?_;refine cp k2 ?_;refine run ?_;refine cp k3 ?_;refine run ?_;refine cp k1 ?_;refine run ?_;refine cp k4 ?_;refine run ?_;refine cp k5 ?_;refine run ?_;exact Ab
end Pe
end
section
namespace Pe
open _root_.Go.Proofs.Tryz
open Go Go.RowKit Co Sg Ac It Sl
set_option maxRecDepth 100000
set_option maxHeartbeats 4000000
abbrev PE (e : Evidence) : AV := .agg [.it .i64 e.old.server, .it .i64 e.old.size, .st e.old.root, .it .i64 e.old.time, .it .i64 e.old.sig.e, .it .i64 e.old.sig.s, .it .i64 e.new.server, .it .i64 e.new.size, .st e.new.root, .it .i64 e.new.time, .it .i64 e.new.sig.e, .it .i64 e.new.sig.s, .st e.root, At e.link]
abbrev Zcx (e : Evidence) : List AV := [.it .i64 e.old.server, .it .i64 e.old.size, .st e.old.root, .it .i64 e.old.time, .it .i64 e.old.sig.e, .it .i64 e.old.sig.s, .it .i64 e.new.server, .it .i64 e.new.size, .st e.new.root, .it .i64 e.new.time, .it .i64 e.new.sig.e, .it .i64 e.new.sig.s, .st e.root, At e.link]
abbrev Tj (h : Head) : List AV := [.it .i64 h.server, .it .i64 h.size, .st h.root, .it .i64 h.time, .it .i64 h.sig.e, .it .i64 h.sig.s]
theorem Zce (e : Evidence) (hl : e.link.length ≤ 140737488355328) : AC prog 39 [PE e] [] (.bo (Jy e)) [] := by
 refine Ai [91] [] func39 ?_;have k1 := L8 e.old;have k2 := L8 e.new;unfold Jy;cases h1 : BJ e.old with
 | false =>
  rw [h1] at k1;refine run ?_;refine cp k1 ?_;refine run ?_;exact Ab
 | true =>
 rw [h1] at k1;cases h2 : BJ e.new with
 | false =>
  rw [h2] at k2;refine run ?_;refine cp k1 ?_;refine run ?_;refine cp k2 ?_;refine run ?_;exact Ab
 | true =>
 rw [h2] at k2;by_cases h3 : e.root.length = 32
 rotate_left
 ·have h3' : ((e.root.length : Int) != 32) = true := B6 (by omega)
  rw [decide_eq_false h3];refine run ?_;refine cp k1 ?_;refine run ?_;refine cp k2 ?_;refine Aa @h3' ?_;exact Ab
 have h3' : ((e.root.length : Int) != 32) = false := B7 (by omega)
 by_cases h4 : e.link.length ≤ 64
 rotate_left
 ·have h4' : (64 : Int) < (e.link.length : Int) := by omega
  rw [decide_eq_true h3, decide_eq_false h4];refine run ?_;refine cp k1 ?_;refine run ?_;refine cp k2 ?_;refine Aa (an @h3' @h4') ?_;exact Ab
 have h4' : ¬ (64 : Int) < (e.link.length : Int) := by omega
 rw [decide_eq_true h3, decide_eq_true h4];refine run ?_;refine cp k1 ?_;refine run ?_;refine cp k2 ?_;refine Aa (an @h3' @h4') ?_;refine AF (fun m en S => S = [.cells (Zcx e)] ∧ en 28 = At e.link ∧ en 29 = .it .i64 (e.link.length : Int) ∧ ∃ k : Nat, en 30 = .it .i64 (k : Int) ∧ k ≤ e.link.length ∧ (e.link.take k).all AP = true ∧ m = e.link.length - k) e.link.length
  ⟨rfl, Ad, Ad, 0, Ad, by omega, rfl, rfl⟩ ?_
 rintro m en S ⟨rfl, s28, s29, k, s30, hk, hall, rfl⟩
 by_cases hlt : k < e.link.length
 ·have hg : e.link[k]? = some e.link[k] := List.getElem?_eq_getElem hlt
  have hstep : e.link.take (k + 1) = e.link.take k ++ [e.link[k]] := List.take_succ_eq_append_getElem hlt;have hbad : AP e.link[k] = false → e.link.all AP = false := fun h => List.all_eq_false.2 ⟨e.link[k], List.getElem_mem hlt, by simp [h]⟩
  generalize e.link[k] = x at *;by_cases hx : x.length = 32
  ·have hx' : ((x.length : Int) != 32) = false := B7 (by omega)
   have hd : AP x = true := decide_eq_true hx;refine Aa (A5 @s28 @s29 @s30 @hg @hx') ?_;exact Ao (e.link.length - (k + 1)) (by omega) ⟨rfl, Ad, Ad, k + 1, Ad, by omega, by rw [hstep, List.all_append, hall]; simp [hd], rfl⟩
  ·have hx' : ((x.length : Int) != 32) = true := B6 (by omega)
   rw [hbad (decide_eq_false hx)];refine Aa (A5 @s28 @s29 @s30 @hg @hx') ?_;exact Ab
 ·obtain rfl : k = e.link.length := by omega
  rw [List.take_length] at hall;rw [hall];have hx : ¬ ((e.link.length : Nat) : Int) < (e.link.length : Int) := by omega
  refine Aa (A4 @s28 @s29 @s30 @hx) ?_;exact Ab
theorem Zcd (l : List It.Entry) (now old : Head) (hl : EOk l) : AC prog 11 [BY l, EL now, EL old] [] (.tup [PE (Jp l now old).1, .bo (Jp l now old).2]) [] := by
 refine Ai [36, 37, 38] [] func11 ?_;have hll := hl.len;have hsz := Fa l;unfold Jp;by_cases c1 : now.server = old.server
 rotate_left
 ·have q1 : (now.server != old.server) = true := B6 c1
  rw [if_pos (.inl c1)];refine Aa @q1 ?_;exact Am
 have q1 : (now.server != old.server) = false := B7 c1;by_cases c2 : old.size < 0
 ·rw [if_pos (.inr (.inl c2))]
  refine Aa (an @q1 @c2) ?_;exact Am
 by_cases c3 : now.size < old.size
 ·rw [if_pos (.inr (.inr (.inl c3)))]
  refine Aa (A3 @q1 @c2 @c3) ?_;exact Am
 by_cases c4 : (l.length : Int) < now.size
 ·rw [if_pos (.inr (.inr (.inr c4)))]
  refine Aa (A4 @q1 @c2 @c3 @c4) ?_;exact Am
 rw [if_neg (by rintro (h | h | h | h); exact h c1; exact c2 h; exact c3 h; exact c4 h)]
 have hn0 : 0 ≤ now.size := by omega
 have ho0 : 0 ≤ old.size := by omega
 have hnl : now.size.toNat ≤ l.length := by omega
 have hszn := Fa (l.take now.size.toNat);have hol : (l.take now.size.toNat).length = now.size.toNat := by rw [List.length_take]; omega
 have hon : old.size.toNat ≤ (l.take now.size.toNat).length := by omega
 have hlt2 : l.take old.size.toNat = (l.take now.size.toNat).take old.size.toNat := by rw [List.take_take, Nat.min_eq_left (by omega)]
 have hok := hl.take now.size.toNat;have hokl := hok.len;rw [hlt2];generalize hln : l.take now.size.toNat = ln at *;have hoi : (ln.length : Int) = now.size := by omega
 refine Aa (A8 @q1 @c2 @c3 @c4 @hn0 @hnl @hsz @hln) ?_;refine AF (fun m e S => e 4 = .ptr 0 0 ∧ e 5 = .ptr 1 0 ∧ e 6 = .ptr 2 0 ∧ e 45 = BY ln ∧ e 46 = .it .i64 (ln.length : Int) ∧ ∃ (k : Nat) (acc : List By) (T : Ae), e 47 = .it .i64 (k : Int) ∧ e 8 = .sl (.own 3) (acc.map .st) ∧ S = .cells (Tj now) :: .cells (Tj old) :: .cells [.it .i64 0, .it .i64 0, .st [], .it .i64 0, .it .i64 0, .it .i64 0, .it .i64 0, .it .i64 0, .st [], .it .i64 0, .it .i64 0, .it .i64 0, .st [], .sl .full []] :: .buf acc.length 9 1 :: T ∧ acc = (ln.take k).map Cy ∧ k ≤ ln.length ∧ m = ln.length - k) ln.length
  ⟨Ad, Ad, Ad, Ad, Ad, 0, [], [], Ad, Ad, rfl, by simp, by omega, rfl⟩ ?_
 rintro m e S ⟨s4, s5, s6, s45, s46, k, acc, T, s47, s8, rfl, hacc, hk, rfl⟩
 have hal : acc.length = k := by rw [hacc, List.length_map, List.length_take, Nat.min_eq_left hk]
 by_cases hlt : k < ln.length
 ·have hg : ln[k]? = some ln[k] := List.getElem?_eq_getElem hlt
  have hz := hok.iz ln[k] (List.getElem_mem hlt);have hst : acc ++ [Cy ln[k]] = (ln.take (k + 1)).map Cy := by rw [List.take_succ_eq_append_getElem hlt, List.map_append, ← hacc]; rfl
  generalize ln[k] = x at *;have kx := Q3 x hz;refine Aa (Aw @s4 @s5 @s6 @s45 @s46 @s47 @s8 @hg @hszn @H6 @H5) ?_;refine cp kx ?_;refine Aa (A7 @s4 @s5 @s6 @s45 @s46 @s47 @s8) ?_;exact Ao (ln.length - (k + 1)) (by omega) ⟨Ad, Ad, Ad, Ad, Ad, k + 1, acc ++ [Cy x], _, Ad, by rw [List.map_append]; exact Ad, by rw [List.length_append]; rfl, hst, by omega, rfl⟩
 obtain rfl : k = ln.length := by omega
 rw [List.take_length] at hacc;have hx : ¬ ((ln.length : Nat) : Int) < (ln.length : Int) := by omega
 have hx32 : ∀ x ∈ acc, x.length ≤ 1000000 := fun x hx => by rw [hacc] at hx; rw [MS _ x hx]; decide
 have hoa : old.size.toNat ≤ acc.length := by omega
 have kr1 := Ib (acc.take old.size.toNat) (by rw [List.length_take]; omega) (fun x hx => hx32 x (List.mem_of_mem_take hx))
 have kr2 := Ib acc (by omega) hx32
 have kl := Za0 acc old.size.toNat hoa (by omega) hx32
 have e1 : Mk.root (acc.take old.size.toNat) = BG (ln.take old.size.toNat) := by rw [hacc, ← List.map_take]; rfl
 have e2 : Mk.root acc = BG ln := by rw [hacc]; rfl
 have e3 : (if old.size.toNat = 0 then [] else Mk.link acc old.size.toNat true) = OY (ln.map Cy) old.size.toNat := by rw [hacc]; rfl
 have e4 : ((old.size.toNat : Nat) : Int) = old.size := by omega
 rw [e1] at kr1;rw [e2] at kr2;rw [e3, e4] at kl;generalize BG (ln.take old.size.toNat) = ro at *;generalize BG ln = rn at *;generalize OY (ln.map Cy) old.size.toNat = lk at *;rw [LX s6];refine Aa (B1 @s4 @s5 @s6 @s45 @s46 @s47 @s8 @hx @ho0 @hoa) ?_;refine cp kr1 ?_;refine Aa (A7 @s4 @s5 @s6 @s45 @s46 @s47 @s8) ?_;refine cp kr2 ?_;by_cases d1 : rn = now.root
 rotate_left
 ·have p1 := Ij _ _ d1
  rw [if_pos (.inl d1)];refine Aa (A8 @s4 @s5 @s6 @s45 @s46 @s47 @s8 @p1) ?_;exact Am
 have p1 : (rn == now.root) = true := by rw [d1]; exact beq_self_eq_true _
 by_cases d2 : ro = old.root
 ·have p2 : (ro == old.root) = true := by rw [d2]; exact beq_self_eq_true _
  rw [if_pos (.inr d2)];refine Aa (A9 @s4 @s5 @s6 @s45 @s46 @s47 @s8 @p1 @p2) ?_;exact Am
 have p2 := Ij _ _ d2;rw [if_neg (by rintro (h | h); exact h d1; exact d2 h)]
 refine Aa (A9 @s4 @s5 @s6 @s45 @s46 @s47 @s8 @p1 @p2) ?_;refine cp kl ?_;refine Aa (A7 @s4 @s5 @s6 @s45 @s46 @s47 @s8) ?_;exact Am
theorem Zcf (ps : List Int) (e : Evidence) (hp : InL ps) (hl : e.link.length ≤ 1000000) : AC prog 12 [Bn ps, PE e] [] (.bo (No ps e)) [] := by
 refine Ai [39, 40, 41] [] func12 ?_;have hpl := hp.len;have kf := Zce e (by omega)
 have hszp : Ax 1 (ps.map (AV.it .i64)) = true := Bh 1 _ (fun _ => rfl) _
 unfold No;cases hf : Jy e with
 | false =>
  rw [hf] at kf;refine run ?_;refine cp kf ?_;refine run ?_;exact Ab
 | true =>
 rw [hf] at kf;obtain ⟨h1, h2, h3, h4, h5⟩ := Zb8.1 hf;have r1 := EX.1 h1;have r2 := EX.1 h2;by_cases c1 : e.old.server = e.new.server
 rotate_left
 ·have q1 : (e.old.server != e.new.server) = true := B6 c1
  rw [decide_eq_false c1];refine run ?_;refine cp kf ?_;refine Aa @q1 ?_;exact Ab
 have q1 : (e.old.server != e.new.server) = false := B7 c1;by_cases c2 : e.old.server < (ps.length : Int)
 rotate_left
 ·rw [decide_eq_true c1, decide_eq_false c2]
  refine run ?_;refine cp kf ?_;refine Aa (an @q1 @c2) ?_;exact Ab
 rw [decide_eq_true c1, decide_eq_true c2];have c0 : 0 ≤ e.old.server := by omega
 have hlt : e.old.server.toNat < ps.length := by omega
 have hg : ps[e.old.server.toNat]? = some (ps.getD e.old.server.toNat 0) := by
  rw [List.getD_eq_getElem?_getD, List.getElem?_eq_getElem hlt]
  rfl
 have hpr : -9223372036854775808 ≤ ps.getD e.old.server.toNat 0 ∧ ps.getD e.old.server.toNat 0 ≤ 9223372036854775807 := by
  rw [List.getD_eq_getElem?_getD, List.getElem?_eq_getElem hlt]
  exact hp.rng _ (List.getElem_mem hlt)
 generalize ps.getD e.old.server.toNat 0 = p at *;have k1 := N8 p e.old hpr;have k2 := N8 p e.new hpr;have k3 := Zcu e.link e.old.size e.new.size e.root e.new.root (by omega) hl (fun y hy => by rw [h5 y hy]; decide)
 generalize extB e.old.size e.new.size e.root e.new.root e.link = xb at *;cases hv1 : EC p e.old with
 | false =>
  rw [hv1] at k1;refine run ?_;refine cp kf ?_;refine Aa (A5 @q1 @c2 @c0 @hg @hszp) ?_;refine cp k1 ?_;refine run ?_;exact Ab
 | true =>
 rw [hv1] at k1;cases hv2 : EC p e.new with
 | false =>
  rw [hv2] at k2;refine run ?_;refine cp kf ?_;refine Aa (A5 @q1 @c2 @c0 @hg @hszp) ?_;refine cp k1 ?_;refine run ?_;refine cp k2 ?_;refine run ?_;exact Ab
 | true =>
 rw [hv2] at k2;by_cases hr : e.root = e.old.root
 ·have qr : (e.root == e.old.root) = true := by rw [hr]; exact beq_self_eq_true _
  rw [decide_eq_true hr];refine run ?_;refine cp kf ?_;refine Aa (A5 @q1 @c2 @c0 @hg @hszp) ?_;refine cp k1 ?_;refine run ?_;refine cp k2 ?_;refine Aa @qr ?_;exact Ab
 ·have qr := Ij _ _ hr
  rw [decide_eq_false hr];refine run ?_;refine cp kf ?_;refine Aa (A5 @q1 @c2 @c0 @hg @hszp) ?_;refine cp k1 ?_;refine run ?_;refine cp k2 ?_;refine Aa @qr ?_;refine cp k3 ?_;refine run ?_;exact Ab
end Pe
end
end Go.Proofs.YtiidnoejnphocaaGreatDoor
