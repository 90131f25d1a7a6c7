import Derived.Test.YtiidnoejnphocaaGreatDoorKs14
set_option linter.unusedSectionVars false
set_option linter.unusedVariables false
set_option linter.unusedSimpArgs false
namespace Go.Proofs.YtiidnoejnphocaaGreatDoor
section
namespace Pe
open Tryz
open Go Go.RowKit Co Sg Ac It Sl Tp
set_option maxRecDepth 100000
set_option maxHeartbeats 4000000
abbrev AH (a : Ac.Act) : AV := AN (Av a)
abbrev BN (ps : List Int) (l : List Ac.Act) : AV := .agg [Bn ps, .sl .ro (l.map AH)]
abbrev Bd (k : Tp.KeyAt) : AV := .agg [.it .i64 k.frm, .it .i64 k.pub, .it .i64 k.home]
abbrev BO (l : List Ac.Act) : AV := .sl .ro (l.map As)
abbrev BH (c : Chn) : AV := .agg [.st c.id, BO c.acts, .sl .ro (c.keys.map Bd), .st c.prev, .it .i64 c.gen, .bo c.fork]
theorem DP (l : List Ac.Act) : Ax 49 (l.map AH) = true := Bh 49 AH (fun _ => rfl) _
theorem DV (l : List Ac.Act) : Ax 20 (l.map As) = true := Bh 20 As (fun _ => rfl) _
theorem Ju (l : List Tp.KeyAt) : Ax 3 (l.map Bd) = true := Bh 3 Bd (fun _ => rfl) _
def Rt (l : List Ac.Act) : Prop := ∀ a ∈ l, Ac.right a = true
theorem F2 (a : Ac.Act) (h : Iz (Av a)) : AC prog 73 [AH a] [] (.st (dg a)) [] := Zcj (Av a) h
theorem Zbd (ps : List Int) : AC prog 24 [Bn ps] [] (BN ps []) [] := by
 refine Ai [] [] func24 ?_;refine run ?_;exact Am
theorem ZbB (a : Ac.Act) (l : List Ac.Act) (d : By) : Gs (a :: l) d = if (d == [] || !(dg a == d)) = true then Gs l d + 1 else 0 := rfl
theorem Bx {k : Nat} (h : k < 4611686018427387904) : IntKind.i64.wrap ((k : Int) + 1) = ((k + 1 : Nat) : Int) := by rw [wrap64 (by omega) (by omega)]; omega
theorem Zbi (ps : List Int) (l : List Ac.Act) (d : By) (hl : l.length ≤ 1000) (hz : ∀ a ∈ l, Iz (Av a)) : AC prog 137 [BN ps l, .st d] [] (.it .i64 (Gs l d : Nat)) [] := by
 have hsz := DP l;refine Ai [73] [] func137 ?_;refine run ?_;refine AF (fun m e S => e 1 = .st d ∧ e 2 = .ptr 0 0 ∧ S = [.cells [Bn ps, .sl .ro (l.map AH)]] ∧ ∃ i : Nat, e 5 = .it .i64 (i : Int) ∧ Gs l d = i + Gs (l.drop i) d ∧ i ≤ l.length ∧ m = l.length - i) l.length ⟨Ad, Ad, rfl, 0, Ad, by simp, by omega, rfl⟩ ?_
 rintro m e S ⟨s1, s2, rfl, i, s5, he, hi, rfl⟩
 by_cases hlt : i < l.length
 ·have hg : l[i]? = some l[i] := List.getElem?_eq_getElem hlt
  have hdr : l.drop i = l[i] :: l.drop (i + 1) := List.drop_eq_getElem_cons hlt;have hlt' : (i : Int) < (l.length : Int) := by omega
  have w1 := Bx (k := i) (by omega)
  have kd := F2 l[i] (hz _ (List.getElem_mem hlt));rw [hdr, ZbB] at he;generalize l[i] = a at *;generalize dg a = y at *;by_cases hd : d = []
  ·have q : (d == []) = true := by rw [hd]; rfl
   rw [if_pos (by rw [q]; rfl)] at he
   refine Aa (A6 @s1 @s2 @s5 @hlt' @q @w1) ?_;exact Ao (l.length - (i + 1)) (by omega) ⟨Ad, Ad, rfl, i + 1, Ad, by omega, by omega, rfl⟩
  ·have q : (d == []) = false := beq_eq_false_iff_ne.2 hd
   by_cases hy : y = d
   ·have q2 : (y == d) = true := beq_iff_eq.2 hy
    rw [if_neg (by rw [q, q2]; decide)] at he
    rw [Nat.add_zero] at he;rw [he];refine Aa (A7 @s1 @s2 @s5 @hlt' @q @hg @hsz) ?_;refine cp kd ?_;refine Aa (A4 @s1 @s2 @s5 @q2) ?_;exact Ab
   ·have q2 : (y == d) = false := beq_eq_false_iff_ne.2 hy
    rw [if_pos (by rw [q2]; simp)] at he
    refine Aa (A7 @s1 @s2 @s5 @hlt' @q @hg @hsz) ?_;refine cp kd ?_;refine Aa (A5 @s1 @s2 @s5 @q2 @w1) ?_;exact Ao (l.length - (i + 1)) (by omega) ⟨Ad, Ad, rfl, i + 1, Ad, by omega, by omega, rfl⟩
 ·obtain rfl : i = l.length := by omega
  rw [List.drop_length] at he;have he : Gs l d = l.length := he;have hlt' : ¬ (l.length : Int) < (l.length : Int) := by omega
  rw [he];refine Aa (A4 @s1 @s2 @s5 @hlt') ?_;exact Ab
theorem SW (ps : List Int) (l : List Ac.Act) (d : By) (hl : l.length ≤ 1000) (hz : ∀ a ∈ l, Iz (Av a)) : AC prog 70 [BN ps l, .st d] [] (.bo (Ix l d)) [] := by
 have k := Zbi ps l d hl hz;have hq : decide (((Gs l d : Nat) : Int) < (l.length : Int)) = Ix l d := by unfold Ix; rw [decide_eq_decide]; omega
 refine Ai [137] [] func70 ?_;refine run ?_;refine cp k ?_;refine Aa @hq ?_;exact Ab
theorem Zbm (a b : Ac.Act) (ha : Iz (Av a)) (hb : Iz (Av b)) : AC prog 291 [AH a, AH b] [] (.bo (LD a b)) [] := by
 have k1 := F2 a ha;have k2 := F2 b hb;unfold LD Is;by_cases h : a.seq ≠ b.seq
 ·have q : ((Av a).act.seq != (Av b).act.seq) = true := B6 h
  have q1 : decide ((Av a).act.seq > (Av b).act.seq) = decide (b.seq < a.seq) := rfl;rw [if_pos h];refine Ai [73] [] func291 ?_;refine Aa (an @q @q1) ?_;exact Ab
 ·have q : ((Av a).act.seq != (Av b).act.seq) = false := B7 (Decidable.not_not.1 h)
  have q1 : ((Av a).decision.number != (Av b).decision.number) = false := rfl;rw [if_neg h];generalize dg a = x at *;generalize dg b = y at *;refine Ai [73] [] func291 ?_;refine Aa (an @q @q1) ?_;refine cp k1 ?_;refine Aa (an @q @q1) ?_;refine cp k2 ?_;refine Aa (an @q @q1) ?_;exact Ab
end Pe
end
section
namespace Pe
open Tryz
open Go Go.RowKit Co Sg Ac It Sl Tp
set_option maxRecDepth 100000
set_option maxHeartbeats 4000000
theorem ZdU (a : Ac.Act) (h : Iz (Av a)) : AC prog 202 [As a] [] (.st (dg a)) [] := by
 have k1 := TH a;have k2 := F2 a h;change AC _ _ _ _ (AH a) _ at k1;generalize dg a = d at *;generalize Av a = i at *;refine Ai [292, 73] [] func202 ?_;refine run ?_;refine cp k1 ?_;refine run ?_;refine cp k2 ?_;refine run ?_;exact Ab
theorem RD {a : Ac.Act} (h : Ac.right a = true) : AC prog 202 [As a] [] (.st (dg a)) [] := ZdU a (DE (Dg [] h).1)
theorem ZbD (a : Ac.Act) (l : List Ac.Act) (d : By) : Cz (a :: l) d = if dg a = d then some 0 else (Cz l d).map (· + 1) := rfl
theorem ZdJ (c : Chn) (d : By) (hl : c.acts.length ≤ 1000) (hr : Rt c.acts) : AC prog 231 [BH c, .st d] [] (.tup [.it .i64 (((Cz c.acts d).getD 0 : Nat) : Int), .bo (Cz c.acts d).isSome]) [] := by
 obtain ⟨id, acts, keys, prev, gen, fork⟩ := c;simp only at hl hr
 show AC _ _ _ _ (.tup [.it .i64 (((Cz acts d).getD 0 : Nat) : Int), .bo (Cz acts d).isSome]) _
 have hsz := DV acts;refine Ai [202] [] func231 ?_;refine run ?_;refine AF (fun m e S => e 1 = .st d ∧ e 2 = .ptr 0 0 ∧ S = [.cells [.st id, BO acts, .sl .ro (keys.map Bd), .st prev, .it .i64 gen, .bo fork]] ∧ ∃ i : Nat, e 6 = .it .i64 (i : Int) ∧ Cz acts d = (Cz (acts.drop i) d).map (· + i) ∧ i ≤ acts.length ∧ m = acts.length - i) acts.length ⟨Ad, Ad, rfl, 0, Ad, by simp, by omega, rfl⟩ ?_
 rintro m e S ⟨s1, s2, rfl, i, s6, he, hi, rfl⟩
 by_cases hlt : i < acts.length
 ·have hg : acts[i]? = some acts[i] := List.getElem?_eq_getElem hlt
  have hdr : acts.drop i = acts[i] :: acts.drop (i + 1) := List.drop_eq_getElem_cons hlt;have hlt' : (i : Int) < (acts.length : Int) := by omega
  have w1 := Bx (k := i) (by omega)
  have kd := RD (hr acts[i] (List.getElem_mem hlt));rw [hdr, ZbD] at he;generalize acts[i] = a at *;generalize dg a = y at *;by_cases hy : y = d
  ·have q2 : (y == d) = true := beq_iff_eq.2 hy
   rw [if_pos hy] at he;have he : Cz acts d = some i := by rw [he]; simp
   rw [he];refine Aa (A6 @s1 @s2 @s6 @hlt' @hg @hsz) ?_;refine cp kd ?_;refine Aa (A4 @s1 @s2 @s6 @q2) ?_;exact Ab
  ·have q2 : (y == d) = false := beq_eq_false_iff_ne.2 hy
   rw [if_neg hy] at he;have he : Cz acts d = (Cz (acts.drop (i + 1)) d).map (· + (i + 1)) := by
    rw [he, Option.map_map];congr 1
    funext n
    show n + 1 + i = n + (i + 1)
    omega
   refine Aa (A6 @s1 @s2 @s6 @hlt' @hg @hsz) ?_;refine cp kd ?_;refine Aa (A5 @s1 @s2 @s6 @q2 @w1) ?_;exact Ao (acts.length - (i + 1)) (by omega) ⟨Ad, Ad, rfl, i + 1, Ad, he, by omega, rfl⟩
 ·obtain rfl : i = acts.length := by omega
  rw [List.drop_length] at he;have he : Cz acts d = none := he;have hlt' : ¬ (acts.length : Int) < (acts.length : Int) := by omega
  rw [he];refine Aa (A4 @s1 @s2 @s6 @hlt') ?_;exact Ab
theorem Zdp (k : Int) : AC prog 232 [.it .i64 k] [] (.bo (JY k)) [] := by
 refine Ai [] [] func232 ?_;unfold JY;by_cases h1 : k = 4
 ·subst h1
  refine run ?_;exact Ab
 have q1 : (k == 4) = false := beq_eq_false_iff_ne.2 h1;by_cases h2 : k = 5
 ·subst h2
  refine run ?_;exact Ab
 have q2 : (k == 5) = false := beq_eq_false_iff_ne.2 h2;by_cases h3 : k = 7
 ·subst h3
  refine run ?_;exact Ab
 have q3 : (k == 7) = false := beq_eq_false_iff_ne.2 h3;by_cases h4 : k = 8
 ·subst h4
  refine run ?_;exact Ab
 have q4 : (k == 8) = false := beq_eq_false_iff_ne.2 h4;by_cases h5 : k = 10
 ·subst h5
  refine run ?_;exact Ab
 have q5 : (k == 10) = false := beq_eq_false_iff_ne.2 h5;by_cases h6 : k = 11
 ·subst h6
  refine run ?_;exact Ab
 have q6 : (k == 11) = false := beq_eq_false_iff_ne.2 h6;by_cases h7 : k = 17
 ·subst h7
  refine run ?_;exact Ab
 have q7 : (k == 17) = false := beq_eq_false_iff_ne.2 h7;by_cases h8 : k = 23
 ·subst h8
  refine run ?_;exact Ab
 have q8 : (k == 23) = false := beq_eq_false_iff_ne.2 h8;rw [q1, q2, q3, q4, q5, q6, q7, q8];refine Aa (A8 @q1 @q2 @q3 @q4 @q5 @q6 @q7 @q8) ?_;exact Ab
theorem PT (c : Chn) (kind time : Int) (hl : c.acts.length ≤ 1000) : AC prog 64 [BH c, .it .i64 kind, .it .i64 time] [] (As (CF c kind time)) [] := by
 obtain ⟨id, acts, keys, prev, gen, fork⟩ := c;refine Ai [] [] func64 ?_;refine run ?_;exact Am
theorem O9 : ∀ (l : List Ac.Act) (d : By) (i : Nat), Cz l d = some i → i < l.length
 | [], _, _, h => by cases h
 | a :: l, d, i, h => by
  unfold Cz at h;split at h
  ·cases h; simp
  ·obtain ⟨j, hj, rfl⟩ := Option.map_eq_some_iff.1 h
   have := O9 l d j hj;rw [List.length_cons];omega
theorem ZdC (c : Chn) (a : Ac.Act) (hl : c.acts.length ≤ 1000) (hr : Rt c.acts) : AC prog 139 [BH c, As a] [] (.bo (Gm c a)) [] := by
 have k := ZdJ c a.object hl hr;have hsz := DV c.acts;by_cases h6 : a.kind = 6
 ·have q6 : (a.kind == 6) = true := beq_iff_eq.2 h6
  have n6 : (a.kind != 6) = false := B7 h6;have ho : Gm c a = match Cz c.acts a.object with
    | none => false
    | some i => JY (c.acts.getD i Au).kind := by
   unfold Gm;rw [if_neg (fun h => h.1 h6)]
   cases Cz c.acts a.object <;> simp [h6]
  rw [ho];cases hx : Cz c.acts a.object with
  | none =>
   rw [hx] at k;obtain ⟨id, acts, keys, prev, gen, fork⟩ := c;refine Ai [231, 232, 233] [] func139 ?_;refine Aa (an @n6 @q6) ?_;refine cp k ?_;refine run ?_;exact Ab
  | some i =>
   rw [hx] at k;change AC _ _ _ _ (.tup [.it .i64 ((i : Nat) : Int), .bo true]) _ at k;have hi := O9 _ _ _ hx;have hg : c.acts[i]? = some c.acts[i] := List.getElem?_eq_getElem hi
   have hgd : c.acts.getD i Au = c.acts[i] := by rw [List.getD_eq_getElem?_getD, hg]; rfl
   show AC _ _ _ _ (.bo (JY (c.acts.getD i Au).kind)) _
   rw [hgd];have k2 := Zdp c.acts[i].kind;obtain ⟨id, acts, keys, prev, gen, fork⟩ := c;simp only at hg k2 hsz hi hl ⊢
   generalize acts[i] = b at *;refine Ai [231, 232, 233] [] func139 ?_;refine Aa (an @n6 @q6) ?_;refine cp k ?_;refine Aa (A4 @n6 @q6 @hg @hsz) ?_;refine cp k2 ?_;refine run ?_;exact Ab
 have q6 : (a.kind == 6) = false := beq_eq_false_iff_ne.2 h6;have n6 : (a.kind != 6) = true := B6 h6;by_cases h13 : a.kind = 13 ∨ a.kind = 14
 ·have ho : Gm c a = match Cz c.acts a.object with
    | none => false
    | some i => EI (c.acts.getD i Au).kind := by
   unfold Gm;rw [if_neg (fun h => by rcases h13 with h13 | h13 <;> simp [h13] at h)]
   cases Cz c.acts a.object <;> simp [h6]
  rw [ho];have q13 : (a.kind != 13) = false ∨ ((a.kind != 13) = true ∧ (a.kind != 14) = false) := by
   rcases h13 with h | h
   ·exact .inl (B7 h)
   ·exact .inr ⟨by rw [h]; rfl, B7 h⟩
  cases hx : Cz c.acts a.object with
  | none =>
   rw [hx] at k;obtain ⟨id, acts, keys, prev, gen, fork⟩ := c;refine Ai [231, 232, 233] [] func139 ?_;rcases q13 with q13 | ⟨q13, q14⟩
   ·refine Aa (A3 @n6 @q6 @q13) ?_
    refine cp k ?_;refine run ?_;exact Ab
   ·refine Aa (A4 @n6 @q6 @q13 @q14) ?_
    refine cp k ?_;refine run ?_;exact Ab
  | some i =>
   rw [hx] at k;change AC _ _ _ _ (.tup [.it .i64 ((i : Nat) : Int), .bo true]) _ at k;have hi := O9 _ _ _ hx;have hg : c.acts[i]? = some c.acts[i] := List.getElem?_eq_getElem hi
   have hgd : c.acts.getD i Au = c.acts[i] := by rw [List.getD_eq_getElem?_getD, hg]; rfl
   show AC _ _ _ _ (.bo (EI (c.acts.getD i Au).kind)) _
   rw [hgd];have k2 := TE c.acts[i].kind;obtain ⟨id, acts, keys, prev, gen, fork⟩ := c;simp only at hg k2 hsz hi hl ⊢
   generalize acts[i] = b at *;refine Ai [231, 232, 233] [] func139 ?_;rcases q13 with q13 | ⟨q13, q14⟩
   ·refine Aa (A3 @n6 @q6 @q13) ?_
    refine cp k ?_;refine Aa (A4 @n6 @q6 @hg @hsz) ?_;refine cp k2 ?_;refine run ?_;exact Ab
   ·refine Aa (A4 @n6 @q6 @q13 @q14) ?_
    refine cp k ?_;refine Aa (A4 @n6 @q6 @hg @hsz) ?_;refine cp k2 ?_;refine run ?_;exact Ab
 ·have q13 : (a.kind != 13) = true := B6 (fun h => h13 (.inl h))
  have q14 : (a.kind != 14) = true := B6 (fun h => h13 (.inr h))
  have ho : Gm c a = true := by
   unfold Gm;rw [if_pos ⟨h6, fun h => h13 (.inl h), fun h => h13 (.inr h)⟩]
  rw [ho];obtain ⟨id, acts, keys, prev, gen, fork⟩ := c;refine Ai [231, 232, 233] [] func139 ?_;refine Aa (A4 @n6 @q6 @q13 @q14) ?_;exact Ab
theorem PS (c : Chn) (a : Ac.Act) (hl : c.acts.length ≤ 1000) (hr : Rt c.acts) (hz : Sz a) : AC prog 72 [BH c, As a] [] (.bo (Cc c a)) [] := by
 have k1 := G2 a hz;have k2 := ZdC c a hl hr;obtain ⟨id, acts, keys, prev, gen, fork⟩ := c;simp only at hl hr
 cases h1 : Ac.right a with
 | false =>
  rw [h1] at k1;have hf : Cc ⟨id, acts, keys, prev, gen, fork⟩ a = false := by unfold Cc; rw [h1]; simp
  rw [hf];refine Ai [69, 139] [] func72 ?_;refine run ?_;refine cp k1 ?_;refine run ?_;exact Ab
 | true =>
  rw [h1] at k1;by_cases h2 : a.author = id
  ·have q2 : (a.author == id) = true := beq_iff_eq.2 h2
   by_cases h3 : a.seq = acts.length
   ·have q3 : (a.seq == (acts.length : Int)) = true := beq_iff_eq.2 h3
    by_cases h4 : a.prev = prev
    ·have q4 : (a.prev == prev) = true := beq_iff_eq.2 h4
     have hf : Cc ⟨id, acts, keys, prev, gen, fork⟩ a = (decide ((a.kind = 0) ↔ (acts.length = 0)) && Gm ⟨id, acts, keys, prev, gen, fork⟩ a) := by unfold Cc; simp [h1, h2, h3, h4]
     by_cases h5 : a.kind = 0
     ·have q5 : (a.kind == 0) = true := beq_iff_eq.2 h5
      by_cases h6 : acts.length = 0
      ·have q6 : ((acts.length : Int) == 0) = true := beq_iff_eq.2 (by omega)
       rw [hf, decide_eq_true ⟨fun _ => h6, fun _ => h5⟩, Bool.true_and]
       refine Ai [69, 139] [] func72 ?_;refine run ?_;refine cp k1 ?_;refine Aa (A5 @q2 @q3 @q4 @q5 @q6) ?_;refine cp k2 ?_;refine run ?_;exact Ab
      ·have q6 : ((acts.length : Int) == 0) = false := beq_eq_false_iff_ne.2 (by omega)
       rw [hf, decide_eq_false (fun h => h6 (h.1 h5)), Bool.false_and]
       refine Ai [69, 139] [] func72 ?_;refine run ?_;refine cp k1 ?_;refine Aa (A5 @q2 @q3 @q4 @q5 @q6) ?_;exact Ab
     ·have q5 : (a.kind == 0) = false := beq_eq_false_iff_ne.2 h5
      by_cases h6 : acts.length = 0
      ·have q6 : ((acts.length : Int) == 0) = true := beq_iff_eq.2 (by omega)
       rw [hf, decide_eq_false (fun h => h5 (h.2 h6)), Bool.false_and]
       refine Ai [69, 139] [] func72 ?_;refine run ?_;refine cp k1 ?_;refine Aa (A5 @q2 @q3 @q4 @q5 @q6) ?_;exact Ab
      ·have q6 : ((acts.length : Int) == 0) = false := beq_eq_false_iff_ne.2 (by omega)
       rw [hf, decide_eq_true ⟨fun h => absurd h h5, fun h => absurd h h6⟩, Bool.true_and]
       refine Ai [69, 139] [] func72 ?_;refine run ?_;refine cp k1 ?_;refine Aa (A5 @q2 @q3 @q4 @q5 @q6) ?_;refine cp k2 ?_;refine run ?_;exact Ab
    ·have q4 : (a.prev == prev) = false := beq_eq_false_iff_ne.2 h4
     have hf : Cc ⟨id, acts, keys, prev, gen, fork⟩ a = false := by unfold Cc; simp [h4]
     rw [hf];refine Ai [69, 139] [] func72 ?_;refine run ?_;refine cp k1 ?_;refine Aa (A3 @q2 @q3 @q4) ?_;exact Ab
   ·have q3 : (a.seq == (acts.length : Int)) = false := beq_eq_false_iff_ne.2 h3
    have hf : Cc ⟨id, acts, keys, prev, gen, fork⟩ a = false := by unfold Cc; simp [h3]
    rw [hf];refine Ai [69, 139] [] func72 ?_;refine run ?_;refine cp k1 ?_;refine Aa (an @q2 @q3) ?_;exact Ab
  ·have q2 : (a.author == id) = false := beq_eq_false_iff_ne.2 h2
   have hf : Cc ⟨id, acts, keys, prev, gen, fork⟩ a = false := by unfold Cc; simp [h2]
   rw [hf];refine Ai [69, 139] [] func72 ?_;refine run ?_;refine cp k1 ?_;refine Aa @q2 ?_;exact Ab
end Pe
end
section
namespace Pe
open Tryz
open Go Go.RowKit Co Sg Ac It Sl Tp
set_option maxRecDepth 100000
set_option maxHeartbeats 4000000
theorem Ei {e : Af} {d : Nat} {v : AV} (h : e d = v) : e = CU e d v := funext fun t => by
 by_cases ht : t = d
 ·subst ht; rw [I1]; exact h
 ·rw [GJ e ht]
theorem UE (n : Nat) (h : n < 10) : AC prog 101 [.it .i64 (-(n : Int))] [] (.st [UInt8.ofNat (48 + n)]) [] := by
 have : n = 0 ∨ n = 1 ∨ n = 2 ∨ n = 3 ∨ n = 4 ∨ n = 5 ∨ n = 6 ∨ n = 7 ∨ n = 8 ∨ n = 9 := by omega
 rcases this with rfl | rfl | rfl | rfl | rfl | rfl | rfl | rfl | rfl | rfl
 ·show AC _ _ [.it .i64 0] _ (.st [48]) _
  have e1 : (0 : Int).tmod 10 = 0 := by decide
  have w1 : IntKind.i64.wrap 0 = 0 := wrap64 (by omega) (by omega)
  have w2 : IntKind.i64.wrap 0 = 0 := wrap64 (by omega) (by omega)
  have w3 : IntKind.i64.wrap (-0) = 0 := by rw [show -(0 : Int) = 0 by decide]; exact w2
  refine Ai [] [] func101 ?_;refine Aa (A4 @e1 @w1 @w2 @w3) ?_;exact Ab
 ·show AC _ _ [.it .i64 (-1)] _ (.st [49]) _
  have e1 : ((-1) : Int).tmod 10 = (-1) := by decide
  have w1 : IntKind.i64.wrap (-1) = (-1) := wrap64 (by omega) (by omega)
  have w2 : IntKind.i64.wrap 1 = 1 := wrap64 (by omega) (by omega)
  have w3 : IntKind.i64.wrap (-(-1)) = 1 := by rw [show -((-1) : Int) = 1 by decide]; exact w2
  refine Ai [] [] func101 ?_;refine Aa (A4 @e1 @w1 @w2 @w3) ?_;exact Ab
 ·show AC _ _ [.it .i64 (-2)] _ (.st [50]) _
  have e1 : ((-2) : Int).tmod 10 = (-2) := by decide
  have w1 : IntKind.i64.wrap (-2) = (-2) := wrap64 (by omega) (by omega)
  have w2 : IntKind.i64.wrap 2 = 2 := wrap64 (by omega) (by omega)
  have w3 : IntKind.i64.wrap (-(-2)) = 2 := by rw [show -((-2) : Int) = 2 by decide]; exact w2
  refine Ai [] [] func101 ?_;refine Aa (A4 @e1 @w1 @w2 @w3) ?_;exact Ab
 ·show AC _ _ [.it .i64 (-3)] _ (.st [51]) _
  have e1 : ((-3) : Int).tmod 10 = (-3) := by decide
  have w1 : IntKind.i64.wrap (-3) = (-3) := wrap64 (by omega) (by omega)
  have w2 : IntKind.i64.wrap 3 = 3 := wrap64 (by omega) (by omega)
  have w3 : IntKind.i64.wrap (-(-3)) = 3 := by rw [show -((-3) : Int) = 3 by decide]; exact w2
  refine Ai [] [] func101 ?_;refine Aa (A4 @e1 @w1 @w2 @w3) ?_;exact Ab
 ·show AC _ _ [.it .i64 (-4)] _ (.st [52]) _
  have e1 : ((-4) : Int).tmod 10 = (-4) := by decide
  have w1 : IntKind.i64.wrap (-4) = (-4) := wrap64 (by omega) (by omega)
  have w2 : IntKind.i64.wrap 4 = 4 := wrap64 (by omega) (by omega)
  have w3 : IntKind.i64.wrap (-(-4)) = 4 := by rw [show -((-4) : Int) = 4 by decide]; exact w2
  refine Ai [] [] func101 ?_;refine Aa (A4 @e1 @w1 @w2 @w3) ?_;exact Ab
 ·show AC _ _ [.it .i64 (-5)] _ (.st [53]) _
  have e1 : ((-5) : Int).tmod 10 = (-5) := by decide
  have w1 : IntKind.i64.wrap (-5) = (-5) := wrap64 (by omega) (by omega)
  have w2 : IntKind.i64.wrap 5 = 5 := wrap64 (by omega) (by omega)
  have w3 : IntKind.i64.wrap (-(-5)) = 5 := by rw [show -((-5) : Int) = 5 by decide]; exact w2
  refine Ai [] [] func101 ?_;refine Aa (A4 @e1 @w1 @w2 @w3) ?_;exact Ab
 ·show AC _ _ [.it .i64 (-6)] _ (.st [54]) _
  have e1 : ((-6) : Int).tmod 10 = (-6) := by decide
  have w1 : IntKind.i64.wrap (-6) = (-6) := wrap64 (by omega) (by omega)
  have w2 : IntKind.i64.wrap 6 = 6 := wrap64 (by omega) (by omega)
  have w3 : IntKind.i64.wrap (-(-6)) = 6 := by rw [show -((-6) : Int) = 6 by decide]; exact w2
  refine Ai [] [] func101 ?_;refine Aa (A4 @e1 @w1 @w2 @w3) ?_;exact Ab
 ·show AC _ _ [.it .i64 (-7)] _ (.st [55]) _
  have e1 : ((-7) : Int).tmod 10 = (-7) := by decide
  have w1 : IntKind.i64.wrap (-7) = (-7) := wrap64 (by omega) (by omega)
  have w2 : IntKind.i64.wrap 7 = 7 := wrap64 (by omega) (by omega)
  have w3 : IntKind.i64.wrap (-(-7)) = 7 := by rw [show -((-7) : Int) = 7 by decide]; exact w2
  refine Ai [] [] func101 ?_;refine Aa (A4 @e1 @w1 @w2 @w3) ?_;exact Ab
 ·show AC _ _ [.it .i64 (-8)] _ (.st [56]) _
  have e1 : ((-8) : Int).tmod 10 = (-8) := by decide
  have w1 : IntKind.i64.wrap (-8) = (-8) := wrap64 (by omega) (by omega)
  have w2 : IntKind.i64.wrap 8 = 8 := wrap64 (by omega) (by omega)
  have w3 : IntKind.i64.wrap (-(-8)) = 8 := by rw [show -((-8) : Int) = 8 by decide]; exact w2
  refine Ai [] [] func101 ?_;refine Aa (A4 @e1 @w1 @w2 @w3) ?_;exact Ab
 ·show AC _ _ [.it .i64 (-9)] _ (.st [57]) _
  have e1 : ((-9) : Int).tmod 10 = (-9) := by decide
  have w1 : IntKind.i64.wrap (-9) = (-9) := wrap64 (by omega) (by omega)
  have w2 : IntKind.i64.wrap 9 = 9 := wrap64 (by omega) (by omega)
  have w3 : IntKind.i64.wrap (-(-9)) = 9 := by rw [show -((-9) : Int) = 9 by decide]; exact w2
  refine Ai [] [] func101 ?_;refine Aa (A4 @e1 @w1 @w2 @w3) ?_;exact Ab
theorem Zdj (n : Nat) (h0 : 10 ≤ n) (h : n < 100) : AC prog 101 [.it .i64 (-(n : Int))] [] (.st [UInt8.ofNat (48 + n / 10), UInt8.ofNat (48 + n % 10)]) [] := by
 have k := UE (n / 10) (by omega)
 have e1 : (-(n : Int)).tdiv 10 = -((n / 10 : Nat) : Int) := by rw [Int.neg_tdiv]; rfl
 have e2 : (-(n : Int)).tmod 10 = -((n % 10 : Nat) : Int) := by rw [Int.neg_tmod]; rfl
 have hle : -(n : Int) ≤ -10 := by omega
 have w1 : IntKind.i64.wrap (-((n / 10 : Nat) : Int)) = -((n / 10 : Nat) : Int) := wrap64 (by omega) (by omega)
 have hd : n % 10 < 10 := by omega
 generalize UInt8.ofNat (48 + n / 10) = c at *;generalize n / 10 = a at *;generalize n % 10 = b at *
 have : b = 0 ∨ b = 1 ∨ b = 2 ∨ b = 3 ∨ b = 4 ∨ b = 5 ∨ b = 6 ∨ b = 7 ∨ b = 8 ∨ b = 9 := by omega
 rcases this with rfl | rfl | rfl | rfl | rfl | rfl | rfl | rfl | rfl | rfl
 ·have e2 : (-(n : Int)).tmod 10 = 0 := e2
  have w4 : IntKind.i64.wrap 0 = 0 := wrap64 (by omega) (by omega)
  have w2 : IntKind.i64.wrap 0 = 0 := wrap64 (by omega) (by omega)
  have w3 : IntKind.i64.wrap (-0) = 0 := by rw [show -(0 : Int) = 0 by decide]; exact w2
  show AC _ _ _ _ (.st [c, 48]) _
  refine Ai [101] [] func101 ?_;refine Aa (A3 @hle @e1 @w1) ?_;refine cp k ?_;refine Aa (A4 @e2 @w4 @w2 @w3) ?_;exact Ab
 ·have e2 : (-(n : Int)).tmod 10 = (-1) := e2
  have w4 : IntKind.i64.wrap (-1) = (-1) := wrap64 (by omega) (by omega)
  have w2 : IntKind.i64.wrap 1 = 1 := wrap64 (by omega) (by omega)
  have w3 : IntKind.i64.wrap (-(-1)) = 1 := by rw [show -((-1) : Int) = 1 by decide]; exact w2
  show AC _ _ _ _ (.st [c, 49]) _
  refine Ai [101] [] func101 ?_;refine Aa (A3 @hle @e1 @w1) ?_;refine cp k ?_;refine Aa (A4 @e2 @w4 @w2 @w3) ?_;exact Ab
 ·have e2 : (-(n : Int)).tmod 10 = (-2) := e2
  have w4 : IntKind.i64.wrap (-2) = (-2) := wrap64 (by omega) (by omega)
  have w2 : IntKind.i64.wrap 2 = 2 := wrap64 (by omega) (by omega)
  have w3 : IntKind.i64.wrap (-(-2)) = 2 := by rw [show -((-2) : Int) = 2 by decide]; exact w2
  show AC _ _ _ _ (.st [c, 50]) _
  refine Ai [101] [] func101 ?_;refine Aa (A3 @hle @e1 @w1) ?_;refine cp k ?_;refine Aa (A4 @e2 @w4 @w2 @w3) ?_;exact Ab
 ·have e2 : (-(n : Int)).tmod 10 = (-3) := e2
  have w4 : IntKind.i64.wrap (-3) = (-3) := wrap64 (by omega) (by omega)
  have w2 : IntKind.i64.wrap 3 = 3 := wrap64 (by omega) (by omega)
  have w3 : IntKind.i64.wrap (-(-3)) = 3 := by rw [show -((-3) : Int) = 3 by decide]; exact w2
  show AC _ _ _ _ (.st [c, 51]) _
  refine Ai [101] [] func101 ?_;refine Aa (A3 @hle @e1 @w1) ?_;refine cp k ?_;refine Aa (A4 @e2 @w4 @w2 @w3) ?_;exact Ab
 ·have e2 : (-(n : Int)).tmod 10 = (-4) := e2
  have w4 : IntKind.i64.wrap (-4) = (-4) := wrap64 (by omega) (by omega)
  have w2 : IntKind.i64.wrap 4 = 4 := wrap64 (by omega) (by omega)
  have w3 : IntKind.i64.wrap (-(-4)) = 4 := by rw [show -((-4) : Int) = 4 by decide]; exact w2
  show AC _ _ _ _ (.st [c, 52]) _
  refine Ai [101] [] func101 ?_;refine Aa (A3 @hle @e1 @w1) ?_;refine cp k ?_;refine Aa (A4 @e2 @w4 @w2 @w3) ?_;exact Ab
 ·have e2 : (-(n : Int)).tmod 10 = (-5) := e2
  have w4 : IntKind.i64.wrap (-5) = (-5) := wrap64 (by omega) (by omega)
  have w2 : IntKind.i64.wrap 5 = 5 := wrap64 (by omega) (by omega)
  have w3 : IntKind.i64.wrap (-(-5)) = 5 := by rw [show -((-5) : Int) = 5 by decide]; exact w2
  show AC _ _ _ _ (.st [c, 53]) _
  refine Ai [101] [] func101 ?_;refine Aa (A3 @hle @e1 @w1) ?_;refine cp k ?_;refine Aa (A4 @e2 @w4 @w2 @w3) ?_;exact Ab
 ·have e2 : (-(n : Int)).tmod 10 = (-6) := e2
  have w4 : IntKind.i64.wrap (-6) = (-6) := wrap64 (by omega) (by omega)
  have w2 : IntKind.i64.wrap 6 = 6 := wrap64 (by omega) (by omega)
  have w3 : IntKind.i64.wrap (-(-6)) = 6 := by rw [show -((-6) : Int) = 6 by decide]; exact w2
  show AC _ _ _ _ (.st [c, 54]) _
  refine Ai [101] [] func101 ?_;refine Aa (A3 @hle @e1 @w1) ?_;refine cp k ?_;refine Aa (A4 @e2 @w4 @w2 @w3) ?_;exact Ab
 ·have e2 : (-(n : Int)).tmod 10 = (-7) := e2
  have w4 : IntKind.i64.wrap (-7) = (-7) := wrap64 (by omega) (by omega)
  have w2 : IntKind.i64.wrap 7 = 7 := wrap64 (by omega) (by omega)
  have w3 : IntKind.i64.wrap (-(-7)) = 7 := by rw [show -((-7) : Int) = 7 by decide]; exact w2
  show AC _ _ _ _ (.st [c, 55]) _
  refine Ai [101] [] func101 ?_;refine Aa (A3 @hle @e1 @w1) ?_;refine cp k ?_;refine Aa (A4 @e2 @w4 @w2 @w3) ?_;exact Ab
 ·have e2 : (-(n : Int)).tmod 10 = (-8) := e2
  have w4 : IntKind.i64.wrap (-8) = (-8) := wrap64 (by omega) (by omega)
  have w2 : IntKind.i64.wrap 8 = 8 := wrap64 (by omega) (by omega)
  have w3 : IntKind.i64.wrap (-(-8)) = 8 := by rw [show -((-8) : Int) = 8 by decide]; exact w2
  show AC _ _ _ _ (.st [c, 56]) _
  refine Ai [101] [] func101 ?_;refine Aa (A3 @hle @e1 @w1) ?_;refine cp k ?_;refine Aa (A4 @e2 @w4 @w2 @w3) ?_;exact Ab
 ·have e2 : (-(n : Int)).tmod 10 = (-9) := e2
  have w4 : IntKind.i64.wrap (-9) = (-9) := wrap64 (by omega) (by omega)
  have w2 : IntKind.i64.wrap 9 = 9 := wrap64 (by omega) (by omega)
  have w3 : IntKind.i64.wrap (-(-9)) = 9 := by rw [show -((-9) : Int) = 9 by decide]; exact w2
  show AC _ _ _ _ (.st [c, 57]) _
  refine Ai [101] [] func101 ?_;refine Aa (A3 @hle @e1 @w1) ?_;refine cp k ?_;refine Aa (A4 @e2 @w4 @w2 @w3) ?_;exact Ab
theorem N6 (n : Nat) (h : n < 100) : AC prog 49 [.it .i64 (n : Int)] [] (.st (DH n)) [] := by
 have hn : ¬ (n : Int) < 0 := by omega
 have e0 : (0 : Int) - (n : Int) = -(n : Int) := by omega
 have w1 : IntKind.i64.wrap (-(n : Int)) = -(n : Int) := wrap64 (by omega) (by omega)
 have w0 : IntKind.i64.wrap (0 - (n : Int)) = -(n : Int) := by rw [e0, w1]
 unfold DH;by_cases h1 : n < 10
 ·have k := UE n h1
  rw [if_pos h1];refine Ai [101] [] func49 ?_;refine Aa (A3 @hn @w0 @w1) ?_;refine cp k ?_;refine run ?_;exact Ab
 ·have k := Zdj n (by omega) h
  rw [if_neg h1];refine Ai [101] [] func49 ?_;refine Aa (A3 @hn @w0 @w1) ?_;refine cp k ?_;refine run ?_;exact Ab
theorem EZ (n m : Int) (h : -9223372036854775808 ≤ n ∧ n ≤ 9223372036854775807) (hm : 0 < m ∧ m ≤ 1000000) : AC prog 8 [.it .i64 n, .it .i64 m] [] (.it .i64 (AZ n m)) [] := by
 show AC _ _ _ _ (.it .i64 (pickN47 n m)) _
 refine Ar [] [] func8 ?_;have h0 := RV (n := n) hm.1;have h1 : -m < n.tmod m ∧ n.tmod m < m := by
  unfold pickN47 at h0;have h2 := Int.lt_tmod_of_pos n hm.1;split at h0 <;> omega
 have hw : IntKind.i64.wrap (n.tmod m) = n.tmod m := wrap64 (by omega) (by omega)
 have hw1 : n.tmod m < 0 → IntKind.i64.wrap (n.tmod m + m) = n.tmod m + m := fun _ => wrap64 (by omega) (by omega)
 have hmz : ¬ m = 0 := by omega
 refine Aa (an @hw @hmz) ?_;by_cases h0 : n.tmod m < 0
 ·have hw1 := hw1 h0
  rw [show pickN47 n m = n.tmod m + m from if_pos h0]
  refine Aa (A3 @hw @hw1 @hmz) ?_;exact Ab
 ·rw [show pickN47 n m = n.tmod m from if_neg h0]
  refine Aa (an @hw @hmz) ?_;exact Ab
theorem Gk (n : Int) {m : Int} (hm : 0 < m) : 0 ≤ AZ n m ∧ AZ n m < m := RV (n := n) hm
theorem ZbL (b : UInt8) : Sm.hex2 b = [Sm.digs.getD (b.toNat / 16) 0, Sm.digs.getD (b.toNat % 16) 0] := by
 have h : ∀ n : _root_.Fin 256, Sm.hex2 (UInt8.ofNat n.1) = [Sm.digs.getD (n.1 / 16) 0, Sm.digs.getD (n.1 % 16) 0] := by decide +kernel
 have := h ⟨b.toNat, UInt8.toNat_lt b⟩;simpa using this
theorem Zu (s : By) (hs : s.length ≤ 1000000) : AC prog 117 [.st s] [] (.st (Sm.hex s)) [] := by
 refine Ai [] [] func117 ?_;refine run ?_;refine C2 (fun m e S => e 0 = .st s ∧ ∃ (k : Nat) (acc : By) (T : Ae), e 4 = .it .i64 (k : Int) ∧ e 3 = .sl (.own 0) (acc.map u8) ∧ S = .buf acc.length 5 1 :: T ∧ acc = Sm.hex (s.take k) ∧ k ≤ s.length ∧ m = s.length - k) s.length _ _ (Ay.reserve 0 3 (es := []) (by rfl) 5 1)
  ⟨Ad, 0, [], [], Ad, Ad, rfl, by simp [Sm.hex], by omega, rfl⟩ ?_
 rintro m e S ⟨s0, k, acc, T, s4, s3, rfl, hacc, hk, rfl⟩
 have hal : acc.length = 2 * k := by
  rw [hacc, Sm.hex, List.length_flatMap, show (List.map (fun a => (Sm.hex2 a).length) (s.take k)) = (s.take k).map (fun _ => 2) from List.map_congr_left (fun _ _ => rfl), List.map_const', List.sum_replicate_nat, List.length_take, Nat.min_eq_left hk, Nat.mul_comm]
 by_cases hlt : k < s.length
 ·have hg : s[k]? = some s[k] := List.getElem?_eq_getElem hlt
  have hst : acc ++ Sm.hex2 s[k] = Sm.hex (s.take (k + 1)) := by
   rw [List.take_succ_eq_append_getElem hlt, Sm.hex, List.flatMap_append, hacc];simp [Sm.hex]
  have hlt' : (k : Int) < (s.length : Int) := by omega
  have w1 := Bx (k := k) (by omega)
  rw [ZbL] at hst;generalize s[k] = x at *;have hx := UInt8.toNat_lt x;have e1 : IntKind.u8.wrap (((x.toNat : Nat) : Int).tdiv 16) = ((x.toNat / 16 : Nat) : Int) := by
   rw [show ((x.toNat : Nat) : Int).tdiv 16 = ((x.toNat / 16 : Nat) : Int) from rfl]
   exact JQ (by omega) (by omega)
  have e2 : ((x.toNat : Nat) : Int).tmod 16 = ((x.toNat % 16 : Nat) : Int) := rfl;have hd1 : Sm.digs[x.toNat / 16]? = some (Sm.digs.getD (x.toNat / 16) 0) := by
   rw [List.getD_eq_getElem?_getD, List.getElem?_eq_getElem (show x.toNat / 16 < Sm.digs.length by show _ < 16; omega)]; rfl
  have hd2 : Sm.digs[x.toNat % 16]? = some (Sm.digs.getD (x.toNat % 16) 0) := by
   rw [List.getD_eq_getElem?_getD, List.getElem?_eq_getElem (show x.toNat % 16 < Sm.digs.length by show _ < 16; omega)]; rfl
  generalize Sm.digs.getD (x.toNat / 16) 0 = c1 at *;generalize Sm.digs.getD (x.toNat % 16) 0 = c2 at *;unfold Sm.digs at hd1 hd2;have hu8 : ∀ b : UInt8, u8 b = .it .u8 (b.toNat : Int) := fun _ => rfl
  refine Aa (Aw @s0 @s4 @s3 @hg @hlt' @hu8 @e1 @e2 @hd1 @hd2 @w1) ?_;exact Ao (s.length - (k + 1)) (by omega) ⟨Ad, k + 1, acc ++ [c1, c2], _, Ad, by rw [List.map_append]; exact Ad, by rw [List.length_append]; rfl, hst, by omega, rfl⟩
 ·obtain rfl : k = s.length := by omega
  rw [List.take_length] at hacc;have hbo : bytesOf (acc.map u8) = some acc := JE acc;have hlt' : ¬ (s.length : Int) < (s.length : Int) := by omega
  rw [← hacc];refine Aa (A5 @s0 @s4 @s3 @hlt' @hbo) ?_;exact Ab
theorem Th (l : By) : (Sm.hex l).length = 2 * l.length := by
 rw [Sm.hex, List.length_flatMap, show (List.map (fun a => (Sm.hex2 a).length) l) = l.map (fun _ => 2) from List.map_congr_left (fun _ _ => rfl), List.map_const', List.sum_replicate_nat, Nat.mul_comm]
theorem P3 (n : Int) (h : -9223372036854775808 ≤ n ∧ n ≤ 9223372036854775807) : AC prog 59 [.it .i64 n] [] (.st (CA n)) [] := by
 have k1 := Bq [97, 99, 116, 111, 114] (by simp)
 have k2 := AL n (by omega)
 have hnl := Aj n (by omega)
 have htl : (text [97, 99, 116, 111, 114]).length ≤ 20 := by decide
 have k3 := FN (text [97, 99, 116, 111, 114] ++ Ag n) (by rw [List.length_append]; omega)
 have hsl := show (Sm.sha (text [97, 99, 116, 111, 114] ++ Ag n)).length = 32 from rfl
 have k4 := Zu (Sm.sha (text [97, 99, 116, 111, 114] ++ Ag n)) (by omega)
 have hhl := Th (Sm.sha (text [97, 99, 116, 111, 114] ++ Ag n));unfold CA;generalize text [97, 99, 116, 111, 114] = x at *;generalize Ag n = y at *;generalize Sm.sha (x ++ y) = z at *;generalize Sm.hex z = u at *;have hb16 : 16 ≤ u.length := by omega
 refine Ai [77, 80, 118, 117] [] func59 ?_;refine run ?_;refine cp k1 ?_;refine run ?_;refine cp k2 ?_;refine run ?_;refine cp k3 ?_;refine run ?_;refine cp k4 ?_;refine Aa @hb16 ?_;exact Ab
theorem Nh (n : Nat) : (DH n).length ≤ 2 := by
 unfold DH;split <;> simp
theorem MU (who : Int) (moves : Nat) (h : -9223372036854775808 ≤ who ∧ who ≤ 9223372036854775807) (hm : moves < 100) : AC prog 48 [.it .i64 who, .it .i64 (moves : Int)] [] (Ea (Br who moves)) [] := by
 have hp := Gk who (m := 4) (by decide)
 have k1 := EZ who 4 h (by decide)
 have k2 := N6 (AZ who 4).toNat (by omega)
 rw [show (((AZ who 4).toNat : Nat) : Int) = AZ who 4 by omega] at k2
 have k3 := N6 moves hm;have l2 := Nh (AZ who 4).toNat;have l3 := Nh moves;have k4 := RA ([97, 99, 116, 111, 114, 32] ++ DH (AZ who 4).toNat ++ [32] ++ DH moves) (by simp only [List.length_append, List.length_cons, List.length_nil]; omega)
 unfold Br;generalize DH (AZ who 4).toNat = x at *;generalize DH moves = y at *;generalize AZ who 4 = p at *;generalize hks : Jt ([97, 99, 116, 111, 114, 32] ++ x ++ [32] ++ y) = kk at *;refine Ai [8, 49, 30] [] func48 ?_;refine run ?_;refine cp k1 ?_;refine run ?_;refine cp k2 ?_;refine run ?_;refine cp k3 ?_;refine run ?_;refine cp k4 ?_;refine run ?_;exact Ab
theorem ND (who : Int) (moves : Nat) : (Br who moves).right = true ∧ (1 ≤ (Br who moves).secret ∧ (Br who moves).secret ≤ 2305843009213693950) ∧ (0 ≤ (Br who moves).pub ∧ (Br who moves).pub ≤ 2305843009213693950) := by
 have h : (Br who moves).right = true := O4 _;refine ⟨h, ?_⟩
 obtain ⟨h1, h2, h3⟩ := Key.right_iff.1 h;have := Zzr 37 (Br who moves).secret.toNat;rw [h3];omega
theorem JJ (who : Int) (h : -9223372036854775808 ≤ who ∧ who ≤ 9223372036854775807) : AC prog 22 [.it .i64 who] [] (.st (B9 who)) [] := by
 have k1 := MU who 0 h (by decide)
 have hi := ND who 0;have k2 := P3 (Br who 0).pub (by omega)
 unfold B9;generalize Br who 0 = k at *;generalize CA k.pub = d at *;refine Ai [48, 59] [] func22 ?_;refine run ?_;refine cp k1 ?_;refine run ?_;refine cp k2 ?_;refine run ?_;exact Ab
theorem U2 (c : Chn) (i : Nat) (hl : c.acts.length ≤ 1000) (hk : c.keys.length ≤ 1000) (hi : i ≤ 1000) : AC prog 296 [BH c, .it .i64 (i : Int)] [] (.tup [Bd (GY c i).1, .bo (GY c i).2]) [] := by
 obtain ⟨id, acts, keys, prev, gen, fork⟩ := c;simp only at hl hk
 have hsz := Ju keys;have h0 : ¬ (i : Int) < 0 := by omega
 unfold GY;simp only
 by_cases h1 : acts.length < i
 ·have h1' : (i : Int) > (acts.length : Int) := by omega
  rw [if_pos h1];refine Ai [] [] func296 ?_;refine Aa (an @h0 @h1') ?_;exact Ab
 ·have h1' : ¬ (i : Int) > (acts.length : Int) := by omega
  rw [if_neg h1];have w0 : IntKind.i64.wrap ((keys.length : Int) - 1) = (keys.length : Int) - 1 := wrap64 (by omega) (by omega)
  refine Ai [] [] func296 ?_;refine Aa (A3 @h0 @h1' @w0) ?_;refine AF (fun m e S => e 1 = .it .i64 (i : Int) ∧ e 2 = .ptr 0 0 ∧ e 4 = .ptr 1 0 ∧ S = [.cells [.st id, BO acts, .sl .ro (keys.map Bd), .st prev, .it .i64 gen, .bo fork], .cells [.it .i64 0, .it .i64 0, .it .i64 0]] ∧ ∃ j : Nat, e 6 = .it .i64 ((j : Int) - 1) ∧ j ≤ keys.length ∧ keys.reverse.find? (fun k => decide (k.frm ≤ (i : Int))) = (keys.take j).reverse.find? (fun k => decide (k.frm ≤ (i : Int))) ∧ m = j) keys.length ⟨Ad, Ad, Ad, rfl, keys.length, Ad, Nat.le_refl _, by rw [List.take_length], rfl⟩ ?_
  rintro m e S ⟨s1, s2, s4, rfl, j, s6, hj, hf, rfl⟩
  rw [Ei s4];cases m with
  | zero =>
   have hn : ¬ (((0 : Nat) : Int) - 1) ≥ 0 := by omega
   have hv : keys.reverse.find? (fun k => decide (k.frm ≤ (i : Int))) = none := hf
   rw [hv];refine Aa (A5 @s1 @s2 @s4 @s6 @hn) ?_;exact Ab
  | succ j =>
   have hjl : j < keys.length := by omega
   have hg : keys[j]? = some keys[j] := List.getElem?_eq_getElem hjl
   have ej : (((j + 1 : Nat) : Int) - 1) = (j : Int) := by omega
   have hp : (j : Int) ≥ 0 := by omega
   rw [ej] at s6;have htk : (keys.take (j + 1)).reverse = keys[j] :: (keys.take j).reverse := by rw [List.take_succ_eq_append_getElem hjl, List.reverse_append]; rfl
   rw [htk, List.find?_cons] at hf
   have w1 : IntKind.i64.wrap ((j : Int) - 1) = (j : Int) - 1 := wrap64 (by omega) (by omega)
   generalize keys[j] = k at *;by_cases hle : k.frm ≤ (i : Int)
   ·rw [decide_eq_true hle] at hf
    have hv : keys.reverse.find? (fun k => decide (k.frm ≤ (i : Int))) = some k := hf
    rw [hv];refine Aa (A8 @s1 @s2 @s4 @s6 @hp @hg @hsz @hle) ?_;exact Ab
   ·rw [decide_eq_false hle] at hf
    refine Aa (A9 @s1 @s2 @s4 @s6 @hp @hg @hsz @hle @w1) ?_;exact Ao j (by omega) ⟨Ad, Ad, Ad, rfl, j, Ad, by omega, hf, rfl⟩
end Pe
end
section
namespace Tp
open Tryz
open Go Co Sg Ac It
def Bt (l : List Ac.Act) : Prop := ∀ a ∈ l, Ac.right a = true
theorem COk.le {c : Chn} {n m : Nat} (h : COk c n) (hm : n ≤ m) : COk c m :=
 ⟨h.acts, by have := h.len; omega, by have := h.klen; omega, h.key, fun k hk => ⟨by have := (h.keys k hk).1; omega, (h.keys k hk).2⟩⟩
theorem Nk (id : By) (f : Bool) : COk ⟨id, [], [], [], 0, f⟩ 0 :=
 ⟨by simp, Nat.le_refl _, Nat.le_refl _, fun h => absurd rfl h, by simp⟩
theorem NA {c : Chn} {n : Nat} {a : Ac.Act} (h : COk c n) (ha : Ac.right a = true) (h0 : c.acts = [] → a.kind = 0) : COk (CR c a) (n + 1) := by
 have hl := h.len;have hk := h.klen;refine ⟨fun x hx => ?_, ?_, ?_, fun _ => ?_, fun k hk => ?_⟩
 ·rcases List.mem_append.1 hx with hx | hx
  ·exact h.acts x hx
  ·rw [List.mem_singleton.1 hx]; exact ha
 ·show (c.acts ++ [a]).length ≤ _
  rw [List.length_append, List.length_singleton];omega
 ·show (if a.kind = 18 ∨ a.kind = 0 then _ else _ : List KeyAt).length ≤ _
  split
  ·rw [List.length_append, List.length_singleton]; omega
  ·omega
 ·show (if a.kind = 18 ∨ a.kind = 0 then _ else _ : List KeyAt) ≠ []
  split
  ·simp
  ·rename_i hn
   exact h.key fun hc => hn (.inr (h0 hc))
 ·have hk' : k ∈ (if a.kind = 18 ∨ a.kind = 0 then c.keys ++ [⟨if a.kind = 0 then 0 else ((c.acts.length + 1 : Nat) : Int), a.n, a.m⟩] else c.keys) := hk
  have old : ∀ k ∈ c.keys, (0 ≤ k.frm ∧ k.frm ≤ ((n + 1 : Nat) : Int)) ∧ ∃ a, Ac.right a = true ∧ k.pub = a.n ∧ k.home = a.m := fun k hk => ⟨by have := (h.keys k hk).1; omega, (h.keys k hk).2⟩
  split at hk'
  ·rcases List.mem_append.1 hk' with hk' | hk'
   ·exact old k hk'
   ·rw [List.mem_singleton.1 hk']
    refine ⟨?_, a, ha, rfl, rfl⟩
    show 0 ≤ (if a.kind = 0 then (0 : Int) else ((c.acts.length + 1 : Nat) : Int)) ∧ (if a.kind = 0 then (0 : Int) else ((c.acts.length + 1 : Nat) : Int)) ≤ _
    split <;> omega
  ·exact old k hk'
theorem U7 {l : List Ac.Act} {c : Chn} {a : Ac.Act} (h : a ∈ Cd l c) : a ∈ l ∧ Cc c a = true := by
 have h := List.mem_filter.1 h;exact ⟨h.1, by have := h.2; simp only [Bool.and_eq_true] at this; exact this.1⟩
theorem TU {c : Chn} {a : Ac.Act} (h : Cc c a = true) : Ac.right a = true ∧ (c.acts = [] → a.kind = 0) := by
 unfold Cc at h;simp only [Bool.and_eq_true, decide_eq_true_eq] at h;exact ⟨h.1.1.1.1.1, fun hc => h.1.2.2 (by rw [hc]; rfl)⟩
theorem Tt : ∀ (n : Nat) (l : List Ac.Act) (c : Chn) (N : Nat), COk c N → COk (C3 n l c) (N + n) ∧ (C3 n l c).id = c.id ∧ (C3 n l c).gen = c.gen
 | 0, _, c, N, h => ⟨h, rfl, rfl⟩
 | n + 1, l, c, N, h => by
  unfold C3;split
  ·rename_i a hc
   have hm : a ∈ Cd l c := by rw [hc]; simp
   obtain ⟨h1, h2⟩ := TU (U7 hm).2;obtain ⟨g1, g2, g3⟩ := Tt n l (CR c a) (N + 1) (NA h h1 h2);exact ⟨g1.le (by omega), g2, g3⟩
  iterate 2
   ·exact ⟨⟨h.acts, by have := h.len; show c.acts.length ≤ _; omega, by have := h.klen; show c.keys.length ≤ _; omega, h.key, (h.le (by omega : N ≤ N + (n + 1))).keys⟩, rfl, rfl⟩
theorem Vy {l : List Ac.Act} {id : By} {a : Ac.Act} (h : a ∈ Ce l id) : a ∈ l ∧ a.kind = 0 := by
 have h := List.mem_filter.1 h;refine ⟨h.1, ?_⟩
 have := h.2;unfold DF at this;simp only [Bool.and_eq_true, Bool.not_eq_true', Bool.or_eq_false_iff, Bool.not_eq_false', beq_iff_eq] at this;exact this.1.1.1.1.2
theorem MD {k : List Ac.Act} (h : Bt k) (id : By) : COk (Cl k id) (k.length + 2) ∧ (Cl k id).id = id ∧ (Cl k id).gen = 0 := by
 unfold Cl;split
 ·rename_i a hb
  have hm := Vy (by rw [hb]; simp : a ∈ Ce (BD k id) id)
  obtain ⟨g1, g2, g3⟩ := Tt (k.length + 1) (BD k id) (CR ⟨id, [], [], [], 0, false⟩ a) 1 (NA (Nk id false) (h a (VZ hm.1)) fun _ => hm.2)
  exact ⟨g1.le (by omega), g2, g3⟩
 ·exact ⟨(Nk id false).le (by omega), rfl, rfl⟩
 ·exact ⟨(Nk id true).le (by omega), rfl, rfl⟩
theorem COk.last {c : Chn} {n : Nat} (h : COk c n) : (0 ≤ (Do c).pub ∧ (Do c).pub ≤ 2305843009213693950) ∧ (0 ≤ (Do c).home ∧ (Do c).home ≤ 2305843009213693950) := by
 unfold Do;rw [List.getD_eq_getElem?_getD]
 cases hk : c.keys[c.keys.length - 1]? with
 | none => simp
 | some k =>
  obtain ⟨_, a, hr, e1, e2⟩ := h.keys k (List.mem_of_getElem? hk);have hs := C0 hr;have h1 := hs.n;have h2 := hs.m;rw [Option.getD_some, e1, e2];exact ⟨h1, h2⟩
theorem Zex {l : List Ac.Act} {a x : Ac.Act} (h : x ∈ (Eh l a).1) : x ∈ l ∨ x = a := by
 unfold Eh at h;split at h
 ·exact .inl h
 ·rcases List.mem_append.1 h with h | h
  ·exact .inl (List.mem_of_mem_take h)
  ·rcases List.mem_cons.1 h with h | h
   ·exact .inr h
   ·exact .inl (List.mem_of_mem_drop h)
theorem Zey (l : List Ac.Act) (a : Ac.Act) : (Eh l a).1.length ≤ l.length + 1 := by
 have := OU l (dg a);unfold Eh;split
 ·exact Nat.le_succ _
 ·rw [List.length_append, List.length_cons, List.length_take, List.length_drop]
  omega
theorem Zew {l : List Ac.Act} {a : Ac.Act} (h : Bt l) (ha : Ac.right a = true) : Bt (Eh l a).1 := fun x hx => by
 rcases Zex hx with hx | rfl
 ·exact h x hx
 ·exact ha
end Tp
end
section
namespace Pe
open Tryz
open Go Go.RowKit Co Sg Ac It Sl Tp
set_option maxRecDepth 100000
set_option maxHeartbeats 4000000
theorem DY (l : List By) : Ax 1 (l.map AV.st) = true := Bh 1 AV.st (fun _ => rfl) _
theorem Zdx (l : List By) (d : By) (k : Nat) (h : k < l.length) : (l.take (k + 1)).contains d = ((l.take k).contains d || (l[k] == d)) := by
 rw [List.take_succ_eq_append_getElem h];simp only [List.contains_eq_any_beq, List.any_append, List.any_cons, List.any_nil, Bool.or_false];congr 1
 rw [Bool.eq_iff_iff];exact ⟨fun h => beq_iff_eq.2 (beq_iff_eq.1 h).symm, fun h => beq_iff_eq.2 (beq_iff_eq.1 h).symm⟩
theorem Tl (l : List By) (d : By) (hl : l.length ≤ 1000000) : AC prog 216 [At l, .st d] [] (.bo (l.contains d)) [] := by
 have hsz := DY l;refine Ai [] [] func216 ?_;refine run ?_;refine AF (fun m e S => e 0 = At l ∧ e 1 = .st d ∧ S = [] ∧ ∃ k : Nat, e 5 = .it .i64 (k : Int) ∧ (l.take k).contains d = false ∧ k ≤ l.length ∧ m = l.length - k) l.length ⟨Ad, Ad, rfl, 0, Ad, by simp, by omega, rfl⟩ ?_
 rintro m e S ⟨s0, s1, rfl, k, s5, hc, hk, rfl⟩
 by_cases hlt : k < l.length
 ·have hg : l[k]? = some l[k] := List.getElem?_eq_getElem hlt
  have hct := Zdx l d k hlt;have hlt' : (k : Int) < (l.length : Int) := by omega
  have w1 := Bx (k := k) (by omega)
  have hin := List.getElem_mem hlt;generalize l[k] = x at *;by_cases hx : x = d
  ·have q : (x == d) = true := beq_iff_eq.2 hx
   have hall : l.contains d = true := by rw [← hx]; simpa using hin
   rw [hall];refine Aa (A6 @s0 @s1 @s5 @hlt' @hg @q) ?_;exact Ab
  ·have q : (x == d) = false := beq_eq_false_iff_ne.2 hx
   rw [hc, q] at hct;refine Aa (A7 @s0 @s1 @s5 @hlt' @hg @q @w1) ?_;exact Ao (l.length - (k + 1)) (by omega) ⟨Ad, Ad, rfl, k + 1, Ad, hct, by omega, rfl⟩
 ·obtain rfl : k = l.length := by omega
  rw [List.take_length] at hc;rw [hc];have hlt' : ¬ (l.length : Int) < (l.length : Int) := by omega
  refine Aa (A4 @s0 @s1 @s5 @hlt') ?_;exact Ab
def Bg (l : List By) (d : By) : Nat := (l.takeWhile fun y => Op.bytesLess y d).length
theorem OT (l : List By) (d : By) : Bg l d ≤ l.length := (List.takeWhile_prefix _).length_le
theorem MN (l : List By) (d : By) : l.take (Bg l d) = l.takeWhile (fun y => Op.bytesLess y d) := by
 have h := List.takeWhile_append_dropWhile (p := fun y => Op.bytesLess y d) (l := l)
 unfold Bg;conv => lhs; rw [← h]
 rw [List.take_left'];rw [h]
theorem MO (l : List By) (d : By) : l.drop (Bg l d) = l.dropWhile (fun y => Op.bytesLess y d) := by
 have h := List.takeWhile_append_dropWhile (p := fun y => Op.bytesLess y d) (l := l)
 unfold Bg;conv => lhs; rw [← h]
 rw [List.drop_left'];rw [h]
theorem SK (x : By) (l : List By) (d : By) : Bg (x :: l) d = if Op.bytesLess x d = true then Bg l d + 1 else 0 := by
 unfold Bg;rw [List.takeWhile_cons];split <;> simp
theorem XA (l : List By) (d : By) (hl : l.length ≤ 1000000) : AC prog 328 [At l, .st d] [] (At (Dj l d)) [] := by
 have hsz := DY l;have k0 := Tl l d hl;cases hc : l.contains d with
 | true =>
  rw [hc] at k0;have hw : Dj l d = l := by unfold Dj; rw [if_pos hc]
  rw [hw];refine Ai [216] [] func328 ?_;refine run ?_;refine cp k0 ?_;refine run ?_;exact Ab
 | false =>
  rw [hc] at k0;have hw : Dj l d = l.take (Bg l d) ++ d :: l.drop (Bg l d) := by unfold Dj; rw [if_neg (by rw [hc]; decide), MN, MO]
  have hres : (l.take (Bg l d) ++ d :: l.drop (Bg l d)).map AV.st = (l.take (Bg l d)).map AV.st ++ [AV.st d] ++ (l.drop (Bg l d)).map AV.st := by
   rw [List.map_append, List.map_cons, List.append_assoc];rfl
  have hszt : Ax 1 ((l.take (Bg l d)).map AV.st) = true := DY _;have hszd : Ax 1 ((l.drop (Bg l d)).map AV.st) = true := DY _;rw [hw];show AC _ _ _ _ (.sl .ro ((l.take (Bg l d) ++ d :: l.drop (Bg l d)).map AV.st)) _
  rw [hres];clear hw hres;refine Ai [216] [] func328 ?_;refine run ?_;refine cp k0 ?_;refine run ?_;refine C2 (fun m e S => e 0 = At l ∧ e 1 = .st d ∧ ∃ (i : Nat) (T : Ae), e 6 = .it .i64 (i : Int) ∧ e 5 = .sl (.own 0) ((l.take i).map .st) ∧ S = .buf i 9 1 :: T ∧ Bg l d = i + Bg (l.drop i) d ∧ i ≤ l.length ∧ m = l.length - i) l.length _ _ (Ay.reserve 0 5 (es := []) (by rfl) 9 1) ⟨Ad, Ad, 0, [], Ad, Ad, rfl, by simp, by omega, rfl⟩ ?_
  rintro m e S ⟨s0, s1, i, T, s6, s5, rfl, he, hi, rfl⟩
  have hsi : Ax 1 ((l.take i).map AV.st) = true := DY _;have htl : (l.take i).length = i := by rw [List.length_take]; omega
  by_cases hlt : i < l.length
  rotate_left
  ·obtain rfl : i = l.length := by omega
   rw [List.drop_length] at he;have he : Bg l d = l.length := he;have hlt' : ¬ (l.length : Int) < (l.length : Int) := by omega
   rw [he] at hszt hszd ⊢;refine Aa (B1 @s0 @s1 @s5 @s6 @hlt' @hsz @hsi @htl @hszt @hszd) ?_;exact Am
  have hg : l[i]? = some l[i] := List.getElem?_eq_getElem hlt
  have hdr : l.drop i = l[i] :: l.drop (i + 1) := List.drop_eq_getElem_cons hlt;have hlt' : (i : Int) < (l.length : Int) := by omega
  have w1 := Bx (k := i) (by omega)
  have hts : (l.take (i + 1)).map AV.st = (l.take i).map AV.st ++ [AV.st l[i]] := by rw [List.take_succ_eq_append_getElem hlt, List.map_append]; rfl
  rw [hdr, SK] at he;generalize l[i] = x at *;cases hle : Op.bytesLess x d with
  | true =>
   rw [if_pos hle] at he;refine Aa (Aw @s0 @s1 @s5 @s6 @hlt' @hg @hsz @hle @hsi @htl @w1) ?_;exact Ao (l.length - (i + 1)) (by omega) ⟨Ad, Ad, i + 1, _, Ad, by rw [hts]; exact Ad, rfl, by omega, by omega, rfl⟩
  | false =>
   rw [if_neg (by rw [hle]; decide), Nat.add_zero] at he
   rw [he] at hszt hszd ⊢;refine Aa (an @s0 (Aw @s1 @s5 @s6 @hlt' @hg @hsz @hle @hsi @htl @hszt @hszd)) ?_;exact Am
theorem Xx (l : List By) (d : By) (hl : l.length ≤ 1000000) : AC prog 329 [At l, .st d] [] (At (BU l d)) [] := by
 have hsz := DY l;refine Ai [] [] func329 ?_;refine run ?_;refine C2 (fun m e S => e 0 = At l ∧ e 1 = .st d ∧ ∃ (k : Nat) (acc : List By) (T : Ae), e 6 = .it .i64 (k : Int) ∧ e 5 = .sl (.own 0) (acc.map .st) ∧ S = .buf acc.length 9 1 :: T ∧ acc = BU (l.take k) d ∧ k ≤ l.length ∧ m = l.length - k) l.length _ _ (Ay.reserve 0 5 (es := []) (by rfl) 9 1)
  ⟨Ad, Ad, 0, [], [], Ad, Ad, rfl, by simp [BU], by omega, rfl⟩ ?_
 rintro m e S ⟨s0, s1, k, acc, T, s6, s5, rfl, hacc, hk, rfl⟩
 have hal : acc.length ≤ k := by
  rw [hacc];exact Nat.le_trans (List.length_filter_le _ _) (by rw [List.length_take]; omega)
 have hsa := DY acc;by_cases hlt : k < l.length
 ·have hg : l[k]? = some l[k] := List.getElem?_eq_getElem hlt
  have hst : BU (l.take (k + 1)) d = acc ++ if (!(l[k] == d)) = true then [l[k]] else [] := by
   rw [hacc];unfold BU;rw [List.take_succ_eq_append_getElem hlt, List.filter_append];congr 1
   simp only [List.filter_cons, List.filter_nil]
  have hlt' : (k : Int) < (l.length : Int) := by omega
  have w1 := Bx (k := k) (by omega)
  generalize l[k] = x at *;by_cases hx : x = d
  ·have q : (x == d) = true := beq_iff_eq.2 hx
   rw [q, if_neg (by decide), List.append_nil] at hst
   refine Aa (A9 @s0 @s1 @s6 @s5 @hlt' @hg @hsz @q @w1) ?_;exact Ao (l.length - (k + 1)) (by omega) ⟨Ad, Ad, k + 1, acc, _, Ad, Ad, rfl, hst.symm, by omega, rfl⟩
  ·have q : (x == d) = false := beq_eq_false_iff_ne.2 hx
   rw [q, show (!false) = true from rfl, if_pos rfl] at hst
   refine Aa (B1 @s0 @s1 @s6 @s5 @hlt' @hg @hsz @hsa @q @w1) ?_;exact Ao (l.length - (k + 1)) (by omega) ⟨Ad, Ad, k + 1, acc ++ [x], _, Ad, by rw [List.map_append]; exact Ad, by rw [List.length_append]; rfl, hst.symm, by omega, rfl⟩
 ·obtain rfl : k = l.length := by omega
  rw [List.take_length] at hacc;subst hacc;have hlt' : ¬ (l.length : Int) < (l.length : Int) := by omega
  refine Aa (A5 @s0 @s1 @s6 @s5 @hlt') ?_;exact Am
theorem ZbA (x : By) (l : List By) (d : By) : E6 (x :: l) d = if x = d then some 0 else (E6 l d).map (· + 1) := rfl
def ZbC (o : Option Nat) : Int := match o with
 | some j => (j : Int)
 | none => -1
theorem Zbz (l : List By) (d : By) (hl : l.length ≤ 1000000) : AC prog 330 [At l, .st d] [] (.it .i64 (ZbC (E6 l d))) [] := by
 have hsz := DY l;refine Ai [] [] func330 ?_;refine run ?_;refine AF (fun m e S => e 0 = At l ∧ e 1 = .st d ∧ S = [] ∧ ∃ k : Nat, e 5 = .it .i64 (k : Int) ∧ E6 l d = (E6 (l.drop k) d).map (· + k) ∧ k ≤ l.length ∧ m = l.length - k) l.length ⟨Ad, Ad, rfl, 0, Ad, by simp, by omega, rfl⟩ ?_
 rintro m e S ⟨s0, s1, rfl, k, s5, he, hk, rfl⟩
 by_cases hlt : k < l.length
 ·have hg : l[k]? = some l[k] := List.getElem?_eq_getElem hlt
  have hdr : l.drop k = l[k] :: l.drop (k + 1) := List.drop_eq_getElem_cons hlt;have hlt' : (k : Int) < (l.length : Int) := by omega
  have w1 := Bx (k := k) (by omega)
  rw [hdr, ZbA] at he;generalize l[k] = x at *;by_cases hx : x = d
  ·have q : (x == d) = true := beq_iff_eq.2 hx
   rw [if_pos hx] at he;have he : E6 l d = some k := by rw [he]; simp
   rw [he];refine Aa (A6 @s0 @s1 @s5 @hlt' @hg @q) ?_;exact Ab
  ·have q : (x == d) = false := beq_eq_false_iff_ne.2 hx
   rw [if_neg hx] at he;have he : E6 l d = (E6 (l.drop (k + 1)) d).map (· + (k + 1)) := by
    rw [he, Option.map_map];congr 1
    funext n
    show n + 1 + k = n + (k + 1)
    omega
   refine Aa (A7 @s0 @s1 @s5 @hlt' @hg @q @w1) ?_;exact Ao (l.length - (k + 1)) (by omega) ⟨Ad, Ad, rfl, k + 1, Ad, he, by omega, rfl⟩
 ·obtain rfl : k = l.length := by omega
  rw [List.drop_length] at he;have he : E6 l d = none := he;rw [he];have hlt' : ¬ (l.length : Int) < (l.length : Int) := by omega
  refine Aa (A4 @s0 @s1 @s5 @hlt') ?_;exact Ab
end Pe
end
end Go.Proofs.YtiidnoejnphocaaGreatDoor
