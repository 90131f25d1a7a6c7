/- A part. -/
import Derived.Test.YtldohjjoicmfpaaGreatDoorKr9
set_option linter.unusedSectionVars false
set_option linter.unusedVariables false
set_option linter.unusedSimpArgs false
namespace Go.Proofs.YtldohjjoicmfpaaGreatDoor
section
namespace Pe
open Tryz
open Go Go.RowKit
variable [Tab]
def IP (md : Region.Mode) (ops : Array Oper) (listed : Array Bool) : Prop :=
 ∀ (j : Nat) oj, ops[j]? = some oj → listed.getD j true = true → ∀ e ∈ oj.after, Region.binds md e = true → listed.getD e.on true = true
theorem U1 {md : Region.Mode} {ops : Array Oper} {k : Nat} {listed : Array Bool} (hc : IP md ops listed) (hk : listed.getD k true = false) : ∀ n j, Cc md ops k n j = true → listed.getD j true = false := by
 intro n;induction n with
 | zero => intro j hj; unfold Cc at hj; rw [beq_iff_eq.1 hj]; exact hk
 | succ n ih =>
  intro j hj;unfold Cc at hj;rw [Bool.or_eq_true] at hj;rcases hj with hj | hj
  ·rw [beq_iff_eq.1 hj]; exact hk
  ·cases ho : ops[j]? with
   | none => rw [ho] at hj; cases hj
   | some oj =>
    rw [ho] at hj;simp only at hj
    rw [Array.any_eq_true'] at hj;obtain ⟨e, he, h2⟩ := hj;simp only [Bool.and_eq_true] at h2;have h3 := ih e.on h2.2;cases hl : listed.getD j true with
    | false => rfl
    | true =>
     have := hc j oj ho hl e he h2.1;rw [h3] at this;cases this
theorem Vo {md : Region.Mode} {ops : Array Oper} {listed : Array Bool} {k : Nat} (hc : IP md ops listed) (hk : k ∈ Region.ready md ops listed) : IP md ops (listed.setIfInBounds k true) := by
 intro j oj hj hl e he hb;obtain ⟨_, ok, hok, hall⟩ := mem_ready.1 hk;have hmono : ∀ i, listed.getD i true = true → (listed.setIfInBounds k true).getD i true = true := fun i hi => by
  by_cases hik : k = i
  ·subst hik
   rw [Array.getD_eq_getD_getElem?, Array.getElem?_setIfInBounds]
   simp only [if_true];split <;> rfl
  ·rw [getD_set_ne true hik]; exact hi
 refine hmono _ ?_
 by_cases hjk : k = j
 ·subst hjk
  rw [hok] at hj;cases hj
  have h1 := hall e he hb;rcases Nat.lt_or_ge e.on listed.size with h' | h'
  ·simp [h'] at h1 ⊢; exact h1
  ·simp [Array.getElem?_eq_none h'] at h1
 ·rw [getD_set_ne true hjk] at hl
  exact hc j oj hj hl e he hb
def Kq (cls : Op → Cls) (md : Region.Mode) (ops : Array Oper) : List Nat → Array Bool → Bool
 | [], listed => (Region.ready md ops listed).isEmpty
 | k :: r, listed => (Region.ready md ops listed).contains k && MF cls md ops listed k && Kq cls md ops r (listed.setIfInBounds k true)
def OD (cls : Op → Cls) (ops : Array Oper) (ord : List Nat) : Bool := ord.length == ops.size && Kq cls .any ops ord (Array.replicate ops.size false)
section
variable {P : Program} {N N0 : Nat} {w0 : World} {g0 : Gh} {pf rf : List FuncId}
theorem Qc {cls : Op → Cls} {md : Region.Mode} {ops : Array Oper} {Q : Af → Ae → Prop} : ∀ (l : List Nat) (listed : Array Bool) (e : Af) (S : Ae), IP md ops listed →
  Kq cls md ops l listed = true → DH P cls ops Q (l.filterMap fun i => ops[i]?) e S → FV P cls md ops Q l.length listed e S
 | [], _, _, _, _, hB, h => ⟨by simpa [Kq] using hB, h⟩
 | k :: l, listed, e, S, hc, hB, h => by
  simp only [Kq, Bool.and_eq_true] at hB;obtain ⟨⟨hr, hf⟩, hB'⟩ := hB;have hr : k ∈ Region.ready md ops listed := by simpa using hr
  obtain ⟨hun, o, h0, _⟩ := mem_ready.1 hr;rw [List.filterMap_cons, h0] at h;have hst : xOp P cls ops k (DH P cls ops Q (l.filterMap fun i => ops[i]?)) e S := by unfold xOp; simp only [h0]; exact h
  obtain ⟨v, S', hy, hK⟩ := Nr h0 hst;exact Qf h0 l.length listed e S S' (U1 hc hun) (TX h0 hf) hr hy (Qc l _ _ _ (Vo hc hr) hB' hK)
theorem ZaJ {ro : Option Nat} {cls : Op → Cls} {ops : Array Oper} {ord : List Nat} {id : Nat} {Q : Af → Ae → Prop} {Q' : Exit → Act → World → Prop} {e : Af} {S : Ae} {a : Act} {w : World} (hm : P.follows .mixedOrders = true) (hB : OD cls ops ord = true) (hds : Eh N ops = true)
  (hQ : ∀ e S a w, AP N w0 g0 e S a w → Q e S → Q' .normal a w) (hc : AP N w0 g0 e S a w) (h : DH P cls ops Q (ord.filterMap fun i => ops[i]?) e S) : (Code.region id ops true).wpIn (wR ro) 0 P Q' a w := by
 refine wpIn_region_any hm (IS ro (cls := cls) hds hQ _ _ e S a _ (hc.draw _) ?_)
 simp only [OD, Bool.and_eq_true, beq_iff_eq] at hB;have h0 : IP .any ops (Array.replicate ops.size false) := fun j oj hj hl => by
  have hlt : j < ops.size := (Array.getElem?_eq_some_iff.1 hj).1
  simp [hlt] at hl
 have := Qc (md := .any) ord (Array.replicate ops.size false) e S h0 hB.2 h;rw [hB.1] at this;exact this
end
def D7 (P : Program) (pf rf : List FuncId) (N : Nat) (ord : List (Nat × List Nat)) : Code → Bool
 | .region id ops draw => Eh N ops && (match ord.lookup id with
  | none => !draw || MA (Dq P pf rf) ops
  | some l => draw && OD (Dq P pf rf) ops l)
 | .seq a b => D7 P pf rf N ord a && D7 P pf rf N ord b
 | .cond _ a b => D7 P pf rf N ord a && D7 P pf rf N ord b
 | .block _ b => D7 P pf rf N ord b
 | .loop b => D7 P pf rf N ord b
 | _ => true
def DD (ord : List (Nat × List Nat)) : Code → CC
 | .skip => .skip
 | .label _ => .skip
 | .region id ops _ => (match ord.lookup id with
  | none => .reg (ops.toList.map (DB ops))
  | some l => .reg ((l.filterMap fun i => ops[i]?).map (DB ops)))
 | .seq a b => .seq (DD ord a) (DD ord b)
 | .cond c a b => .cond c (DD ord a) (DD ord b)
 | .block id b => .block id (DD ord b)
 | .loop b => .loop (DD ord b)
 | .exit id => .exit id
 | .ret => .ret
 | _ => .bad
section
variable {P : Program} {N N0 : Nat} {w0 : World} {g0 : Gh} {pf rf : List FuncId} {ord : List (Nat × List Nat)}
theorem Xa {ro : Option Nat} (hm : P.follows .mixedOrders = true) (hN0 : g0.nid = N0) : ∀ (c : Code) (Q : AX → Af → Ae → Prop) (e : Af) (S : Ae) (a : Act) (w : World), D7 P pf rf N ord c = true → AP N w0 g0 e S a w → AW P pf rf N0 (DD ord c) Q e S → c.wpIn (wR ro) 0 P (Eo N w0 g0 Q) a w := by
 intro c;induction c with
 | skip => intro Q e S a w _ hc h; exact wpIn_skip ⟨e, S, hc, h⟩
 | label l => intro Q e S a w _ hc h; exact wpIn_label ⟨e, S, hc, h⟩
 | ret => intro Q e S a w _ hc h; exact wpIn_ret ⟨e, S, hc, h⟩
 | exit id => intro Q e S a w _ hc h; exact wpIn_exit ⟨e, S, hc, h⟩
 | region id ops draw =>
  intro Q e S a w hok hc h;have hQ : ∀ e S a w, AP N w0 g0 e S a w → Q .norm e S → Eo N w0 g0 Q .normal a w := fun e S a w hc hq => ⟨e, S, hc, hq⟩
  simp only [D7, Bool.and_eq_true] at hok;simp only [DD] at h;cases ho : ord.lookup id with
  | none =>
   rw [ho] at hok h;simp only at hok h
   rw [AW] at h;have hL := IR ops.toList e S h;cases draw with
   | false => exact N6 hok.1 hQ hc hL ro
   | true => exact RN hm (by simpa using hok.2) hok.1 hQ hc hL
  | some l =>
   rw [ho] at hok h;simp only at hok h
   rw [AW] at h;have hL := IR _ e S h;cases draw with
   | false => simp at hok
   | true => exact ZaJ hm (by simpa using hok.2) hok.1 hQ hc hL
 | seq x y ihx ihy =>
  intro Q e S a w hok hc h;simp only [D7, Bool.and_eq_true] at hok;simp only [DD, AW] at h;refine wpIn_seq (Go.wpIn_mono (ihx _ e S a w hok.1 hc h) ?_)
  intro ex a' w' hq;cases ex with
  | normal => obtain ⟨e', S', hc', h'⟩ := hq; exact ihy Q e' S' a' w' hok.2 hc' h'
  | exit id => exact hq
  | ret => exact hq
  | _ => exact hq.elim
 | cond c x y ihx ihy =>
  intro Q e S a w hok hc h;simp only [D7, Bool.and_eq_true] at hok;simp only [DD, AW] at h;split at h
  ·rename_i b hb
   have hcb : a.eval c = .bool b := by
    obtain ⟨_, _, g, _, h4, _⟩ := hc;have := Jt h4 c;rw [hb] at this;cases hv : a.eval c <;> rw [hv] at this <;> cases this
    rfl
   refine wpIn_cond_split hcb (fun ht => ihx Q e S a w hok.1 hc (h.1 ht)) (fun hf => ihy Q e S a w hok.2 hc (h.2 hf))
  ·exact h.elim
 | block id c ih =>
  intro Q e S a w hok hc h;simp only [DD, AW] at h;refine wpIn_block (Go.wpIn_mono (ih _ e S a w hok hc h) ?_)
  intro ex a' w' hq;cases ex with
  | normal => exact hq
  | exit i =>
   obtain ⟨e', S', hc', h'⟩ := hq;simp only [EA] at h';simp only [Exit.inBlock];by_cases hi : i = id
   ·rw [if_pos hi] at h' ⊢; exact ⟨e', S', hc', h'⟩
   ·rw [if_neg hi] at h' ⊢; exact ⟨e', S', hc', h'⟩
  | ret => exact hq
  | _ => exact hq.elim
 | loop c ih =>
  intro Q e S a w hok hc h;simp only [DD, AW] at h;obtain ⟨I, ⟨n, e', S', hwk, hI⟩, hround⟩ := h;refine Ld (fun n a w => ∃ e S, AP N w0 g0 e S a w ∧ I n e S) n ⟨e', S', hwk N w0 g0 a w hN0 hc, hI⟩ ?_
  rintro n a w ⟨e, S, hc, hI⟩
  refine Go.wpIn_mono (ih _ e S a w hok hc (hround n e S hI)) ?_
  intro ex a' w' hq;cases ex with
  | normal =>
   obtain ⟨e1, S1, hc1, n', e2, S2, hlt, hwk', hI'⟩ := hq;exact ⟨n', hlt, e2, S2, hwk' N w0 g0 a' w' hN0 hc1, hI'⟩
  | exit i => exact hq
  | ret => exact hq
  | _ => exact hq.elim
 | _ => intro Q e S a w _ _ h; exact h.elim
end
section
variable {P : Program}
end
end Pe
namespace Pe
open Tryz
open Go Go.RowKit
variable [Tab]
def keeps (Kp : List Nat) (S S' : Ae) : Prop := ∀ k ∈ Kp, S'[k]? = S[k]?
inductive K4 where
 | rp | wr | al | ot
def FG (lp wp : List Nat) (d : Option Nat) (op : Op) : K4 := match d with
 | some d => if lp.contains d then .rp else if wp.contains d then (match op with
   | .call c => (match c.callee with
    | .builtin _ => .al
    | _ => .wr)
   | _ => .wr) else match op with
  | .alloc _ => .al
  | _ => .ot
 | none => .ot
inductive K5 where
 | rp | wr | ap | ot
def GU (lp wp : List Nat) (d : Option Nat) (op : Op) : K5 := match FG lp wp d op with
 | .rp => .rp
 | .wr => .wr
 | .al => (match op with
  | .call _ => .ap
  | _ => .ot)
 | .ot => .ot
def Cj (P : Program) (Kp lp wp : List Nat) (cls : Op → Cls) (o : Oper) (e : Af) (S : Ae) (v : AV) (S' : Ae) : Prop :=
 match FG lp wp o.dst o.op with
 | .rp => S' = S ∧ ∃ k ∈ Kp, ∀ S2 : Ae, S2[k]? = S[k]? → A0 P o e S2 v S2
 | .wr => S'.length = S.length ∧ keeps Kp S S' ∧ ∀ R, A0 P o e (S ++ R) v (S' ++ R)
 | .al => (∃ z, S' = S ++ [z] ∧ ∀ S2 : Ae, S2.length = S.length → A0 P o e S2 v (S2 ++ [z])) ∧ keeps Kp S S'
 | .ot => CE P (cls o.op) o e S v S' ∧ keeps Kp S S'
theorem Cj.does {P : Program} {Kp lp wp : List Nat} {cls : Op → Cls} {o : Oper} {e : Af} {S S' : Ae} {v : AV} (h : Cj P Kp lp wp cls o e S v S') : A0 P o e S v S' := by
 unfold Cj at h;split at h
 ·obtain ⟨rfl, k, _, h⟩ := h; exact h _ rfl
 ·have := h.2.2 []; simpa using this
 ·obtain ⟨⟨z, rfl, h⟩, _⟩ := h; exact h _ rfl
 ·exact h.1.does
theorem Cj.keeps {P : Program} {Kp lp wp : List Nat} {cls : Op → Cls} {o : Oper} {e : Af} {S S' : Ae} {v : AV} (h : Cj P Kp lp wp cls o e S v S') : keeps Kp S S' := by
 unfold Cj at h;split at h
 ·obtain ⟨rfl, _⟩ := h; exact fun _ _ => rfl
 ·exact h.2.1
 ·exact h.2
 ·exact h.2
theorem Cj.put {P : Program} {Kp lp wp : List Nat} {cls : Op → Cls} {o : Oper} {e : Af} {S S' : Ae} {v : AV} {ops : Array Oper} {dst : Option Nat} {u : AV} (h : ∀ d, dst = some d → d ∉ o.looksAt ops) : Cj P Kp lp wp cls o (Pe.put e dst u) S v S' ↔ Cj P Kp lp wp cls o e S v S' := by
 unfold Cj;split
 ·exact and_congr Iff.rfl (exists_congr fun k => and_congr Iff.rfl (forall_congr' fun S2 => imp_congr Iff.rfl (A0.put h)))
 ·exact and_congr Iff.rfl (and_congr Iff.rfl (forall_congr' fun R => A0.put h))
 ·exact and_congr (exists_congr fun z => and_congr Iff.rfl (forall_congr' fun S2 => imp_congr Iff.rfl (A0.put h))) Iff.rfl
 ·exact and_congr (CE.put h) Iff.rfl
def GV (lp wp : List Nat) (cls : Op → Cls) (ops : Array Oper) (x y : Oper) : Bool :=
 x.apart ops y && (match FG lp wp x.dst x.op, FG lp wp y.dst y.op with
  | .rp, _ => true
  | _, .rp => true
  | .wr, .al => true
  | .wr, .ot => (match cls y.op with | .free => true | _ => false)
  | .al, .ot => (match cls y.op with | .free => true | _ => false)
  | .ot, .wr => (match cls x.op with | .free => true | _ => false)
  | .ot, .al => (match cls x.op with | .free => true | .read => true | _ => false)
  | .ot, .ot => (match cls x.op, cls y.op with
   | .free, _ => true
   | _, .free => true
   | .read, .read => true
   | .read, .fresh => true
   | _, _ => false)
  | _, _ => false)
theorem Cj.swap {P : Program} {Kp lp wp : List Nat} {cls : Op → Cls} {ops : Array Oper} {oi oj : Oper} {e : Af} {S Si Sj : Ae} {v u : AV} (hap : GV lp wp cls ops oi oj = true) (hi : Cj P Kp lp wp cls oi e S v Si) (hj : Cj P Kp lp wp cls oj e Si u Sj) :
  ∃ Sm, Cj P Kp lp wp cls oj e S u Sm ∧ Cj P Kp lp wp cls oi e Sm v Sj := by
 have hki := hi.keeps;have hkj := hj.keeps;simp only [GV, Bool.and_eq_true] at hap;have hcls := hap.2;unfold Cj at hi hj ⊢;cases hri : FG lp wp oi.dst oi.op with
 | rp =>
  simp only [hri] at hi hj ⊢;obtain ⟨rfl, k, hk, hi⟩ := hi;exact ⟨Sj, hj, rfl, k, hk, fun S2 h2 => hi S2 (h2.trans (hkj k hk))⟩
 | wr =>
  cases hrj : FG lp wp oj.dst oj.op with
  | rp =>
   simp only [hri, hrj] at hi hj ⊢;obtain ⟨rfl, k, hk, hj⟩ := hj;exact ⟨S, ⟨rfl, k, hk, fun S2 h2 => hj S2 (h2.trans (hki k hk).symm)⟩, hi⟩
  | wr => rw [hri, hrj] at hcls; cases hcls
  | al =>
   simp only [hri, hrj] at hi hj ⊢;obtain ⟨hl, _, hi⟩ := hi;obtain ⟨⟨z, rfl, hj⟩, _⟩ := hj;have h1 : Pe.keeps Kp S (S ++ [z]) := fun k hk => by
    have h1 := hkj k hk;rcases Nat.lt_trichotomy k S.length with hlt | heq | hgt
    ·rw [List.getElem?_append_left hlt]
    ·exfalso
     rw [heq, ← hl, List.getElem?_append_right (Nat.le_refl _), Nat.sub_self, List.getElem?_eq_none (Nat.le_refl _)] at h1
     cases h1
    ·rw [List.getElem?_eq_none (by simp; omega), List.getElem?_eq_none (by omega)]
   have hS : Pe.keeps Kp S (S ++ [z]) ∧ Pe.keeps Kp (S ++ [z]) (Si ++ [z]) := ⟨h1, fun k hk => by rw [hkj k hk, hki k hk, h1 k hk]⟩
   refine ⟨S ++ [z], ⟨⟨z, rfl, fun S2 h2 => hj S2 (by omega)⟩, hS.1⟩, by simp [hl], hS.2, fun R => ?_⟩
   rw [List.append_assoc, List.append_assoc];exact hi _
  | ot =>
   simp only [hri, hrj] at hi hj hcls ⊢;obtain ⟨hl, hk, hi⟩ := hi;cases hcj : cls oj.op with
   | free =>
    rw [hcj] at hj;obtain ⟨⟨rfl, hj⟩, _⟩ := hj;exact ⟨S, ⟨⟨rfl, hj⟩, fun _ _ => rfl⟩, hl, hk, hi⟩
   | read => rw [hcj] at hcls; cases hcls
   | fresh => rw [hcj] at hcls; cases hcls
   | write => rw [hcj] at hcls; cases hcls
 | al =>
  cases hrj : FG lp wp oj.dst oj.op with
  | rp =>
   simp only [hri, hrj] at hi hj ⊢;obtain ⟨rfl, k, hk, hj⟩ := hj;exact ⟨S, ⟨rfl, k, hk, fun S2 h2 => hj S2 (h2.trans (hki k hk).symm)⟩, hi⟩
  | wr => rw [hri, hrj] at hcls; cases hcls
  | al => rw [hri, hrj] at hcls; cases hcls
  | ot =>
   simp only [hri, hrj] at hi hj hcls ⊢;cases hcj : cls oj.op with
   | free =>
    rw [hcj] at hj;obtain ⟨⟨rfl, hj⟩, _⟩ := hj;exact ⟨S, ⟨⟨rfl, hj⟩, fun _ _ => rfl⟩, hi⟩
   | read => rw [hcj] at hcls; cases hcls
   | fresh => rw [hcj] at hcls; cases hcls
   | write => rw [hcj] at hcls; cases hcls
 | ot =>
  cases hrj : FG lp wp oj.dst oj.op with
  | rp =>
   simp only [hri, hrj] at hi hj ⊢;obtain ⟨rfl, k, hk, hj⟩ := hj;exact ⟨S, ⟨rfl, k, hk, fun S2 h2 => hj S2 (h2.trans (hki k hk).symm)⟩, hi⟩
  | wr =>
   simp only [hri, hrj] at hi hj hcls ⊢;cases hci : cls oi.op with
   | free =>
    rw [hci] at hi;obtain ⟨⟨rfl, hi⟩, _⟩ := hi;exact ⟨Sj, hj, ⟨rfl, hi⟩, fun _ _ => rfl⟩
   | read => rw [hci] at hcls; cases hcls
   | fresh => rw [hci] at hcls; cases hcls
   | write => rw [hci] at hcls; cases hcls
  | al =>
   simp only [hri, hrj] at hi hj hcls ⊢;cases hci : cls oi.op with
   | free =>
    rw [hci] at hi;obtain ⟨⟨rfl, hi⟩, _⟩ := hi;exact ⟨Sj, hj, ⟨rfl, hi⟩, fun _ _ => rfl⟩
   | read =>
    rw [hci] at hi;obtain ⟨⟨rfl, hi⟩, _⟩ := hi;obtain ⟨⟨z, rfl, hj⟩, hk⟩ := hj;exact ⟨_, ⟨⟨z, rfl, hj⟩, hk⟩, ⟨rfl, fun R' => by rw [List.append_assoc]; exact hi _⟩, fun _ _ => rfl⟩
   | fresh => rw [hci] at hcls; cases hcls
   | write => rw [hci] at hcls; cases hcls
  | ot =>
   simp only [hri, hrj] at hi hj hcls ⊢;obtain ⟨hi, _⟩ := hi;obtain ⟨hj, _⟩ := hj;cases hci : cls oi.op with
   | free =>
    rw [hci] at hi;obtain ⟨rfl, hi⟩ := hi;exact ⟨Sj, ⟨hj, hkj⟩, ⟨rfl, hi⟩, fun _ _ => rfl⟩
   | read =>
    rw [hci] at hi;obtain ⟨rfl, hi⟩ := hi;cases hcj : cls oj.op with
    | free =>
     rw [hcj] at hj;obtain ⟨rfl, hj⟩ := hj;exact ⟨_, ⟨⟨rfl, hj⟩, hkj⟩, ⟨rfl, hi⟩, fun _ _ => rfl⟩
    | read =>
     rw [hcj] at hj;obtain ⟨rfl, hj⟩ := hj;exact ⟨_, ⟨⟨rfl, hj⟩, hkj⟩, ⟨rfl, hi⟩, fun _ _ => rfl⟩
    | fresh =>
     rw [hcj] at hj;obtain ⟨⟨R, rfl⟩, hj⟩ := hj;exact ⟨_, ⟨⟨⟨R, rfl⟩, hj⟩, hkj⟩, ⟨rfl, fun R' => by rw [List.append_assoc]; exact hi (R ++ R')⟩, fun _ _ => rfl⟩
    | write => rw [hci, hcj] at hcls; cases hcls
   | fresh =>
    rw [hci] at hi;cases hcj : cls oj.op with
    | free =>
     rw [hcj] at hj;obtain ⟨rfl, hj⟩ := hj;exact ⟨_, ⟨⟨rfl, hj⟩, fun _ _ => rfl⟩, hi, hki⟩
    | read => rw [hci, hcj] at hcls; cases hcls
    | fresh => rw [hci, hcj] at hcls; cases hcls
    | write => rw [hci, hcj] at hcls; cases hcls
   | write =>
    rw [hci] at hi;cases hcj : cls oj.op with
    | free =>
     rw [hcj] at hj;obtain ⟨rfl, hj⟩ := hj;exact ⟨_, ⟨⟨rfl, hj⟩, fun _ _ => rfl⟩, hi, hki⟩
    | read => rw [hci, hcj] at hcls; cases hcls
    | fresh => rw [hci, hcj] at hcls; cases hcls
    | write => rw [hci, hcj] at hcls; cases hcls
section
variable {P : Program} {N N0 : Nat} {w0 : World} {g0 : Gh} {pf rf : List FuncId} {Kp lp wp : List Nat}
def xOp4 (P : Program) (Kp lp wp : List Nat) (cls : Op → Cls) (ops : Array Oper) (i : Nat) (K : Af → Ae → Prop) (e : Af) (S : Ae) : Prop :=
 match ops[i]? with
 | none => K e S
 | some o => match CL ops o e with
  | some true => ∃ v S', Cj P Kp lp wp cls o e S v S' ∧ K (Pe.put e o.dst v) S'
  | some false => K (Pe.put e o.dst (.tup [])) S
  | none => False
theorem XY {cls : Op → Cls} {ops : Array Oper} {i : Nat} {K K' : Af → Ae → Prop} {e : Af} {S : Ae} (h : ∀ e S, K e S → K' e S) (hh : xOp4 P Kp lp wp cls ops i K e S) : xOp4 P Kp lp wp cls ops i K' e S := by
 unfold xOp4 at *;split
 ·rename_i ho; simp only [ho] at hh; exact h _ _ hh
 ·rename_i o ho
  simp only [ho] at hh;split
  ·rename_i hw; simp only [hw] at hh; obtain ⟨v, S', h1, h2⟩ := hh; exact ⟨v, S', h1, h _ _ h2⟩
  ·rename_i hw; simp only [hw] at hh; exact h _ _ hh
  ·rename_i hw; simp only [hw] at hh
def JK (P : Program) (Kp lp wp : List Nat) (cls : Op → Cls) (md : Region.Mode) (ops : Array Oper) (Q : Af → Ae → Prop) : Nat → Array Bool → Af → Ae → Prop
 | 0, listed, e, S => Region.ready md ops listed = [] ∧ Q e S
 | fuel + 1, listed, e, S =>
  (Region.ready md ops listed = [] → Q e S) ∧
  ∀ i ∈ Region.ready md ops listed, xOp4 P Kp lp wp cls ops i (JK P Kp lp wp cls md ops Q fuel (listed.setIfInBounds i true)) e S
theorem Lf {ro : Option Nat} {cls : Op → Cls} {md : Region.Mode} {ops : Array Oper} (hds : Eh N ops = true) {Q : Af → Ae → Prop} {Q' : Exit → Act → World → Prop} (hQ : ∀ e S a w, AP N w0 g0 e S a w → Q e S → Q' .normal a w) :
  ∀ (fuel : Nat) (listed : Array Bool) (e : Af) (S : Ae) (a : Act) (w : World), AP N w0 g0 e S a w → JK P Kp lp wp cls md ops Q fuel listed e S → wpAnyIn (wR ro) 0 P md ops Q' fuel listed a w
 | 0, _, e, S, a, w, hc, h => ⟨h.1, hQ e S a w hc h.2⟩
 | fuel + 1, listed, e, S, a, w, hc, h => ⟨fun h0 => hQ e S a w hc (h.1 h0), fun i hi => by
  have hx := h.2 i hi;unfold xOp4 at hx;unfold wpOpIn;split
  ·rename_i ho; simp only [ho] at hx; exact Lf hds hQ fuel _ e S a w hc hx
  ·rename_i o ho
   simp only [ho] at hx;have hd := MR hds ho;have her : ∃ g, Cv w g e a := by obtain ⟨_, _, g, _, h4, _⟩ := hc; exact ⟨g, h4⟩
   obtain ⟨g, her⟩ := her;split at hx
   ·rename_i hw
    rw [Ha her hw];obtain ⟨v, S', h1, h2⟩ := hx;simp only [if_true];exact hc.does hd h1.does (fun a' w' hc' => Lf hds hQ fuel _ _ _ a' w' hc' h2) ro
   ·rename_i hw
    rw [Ha her hw];simp only [Bool.false_eq_true, if_false];exact ⟨fun _ _ => trivial, Lf hds hQ fuel _ _ _ _ w (hc.skip hd) hx⟩
   ·exact hx.elim⟩
def JE (P : Program) (Kp lp wp : List Nat) (cls : Op → Cls) (ops : Array Oper) (o : Oper) (e : Af) (S : Ae) (v : AV) (S' : Ae) : Prop :=
 (CL ops o e = some true ∧ Cj P Kp lp wp cls o e S v S') ∨ (CL ops o e = some false ∧ v = .tup [] ∧ S' = S)
theorem JE.xOp4 {cls : Op → Cls} {ops : Array Oper} {i : Nat} {o : Oper} {e : Af} {S S' : Ae} {v : AV} (hi : ops[i]? = some o) (hy : JE P Kp lp wp cls ops o e S v S') {K : Af → Ae → Prop} (h : K (Pe.put e o.dst v) S') : xOp4 P Kp lp wp cls ops i K e S := by
 unfold Pe.xOp4;simp only [hi];rcases hy with ⟨hw, hx⟩ | ⟨hw, rfl, rfl⟩
 ·simp only [hw]; exact ⟨v, S', hx, h⟩
 ·simp only [hw]; exact h
theorem XW {cls : Op → Cls} {ops : Array Oper} {i : Nat} {o : Oper} {e : Af} {S : Ae} {K : Af → Ae → Prop} (hi : ops[i]? = some o) (h : xOp4 P Kp lp wp cls ops i K e S) : ∃ v S', JE P Kp lp wp cls ops o e S v S' ∧ K (Pe.put e o.dst v) S' := by
 unfold xOp4 at h;simp only [hi] at h;split at h
 ·rename_i hw; obtain ⟨v, S', h1, h2⟩ := h; exact ⟨v, S', .inl ⟨hw, h1⟩, h2⟩
 ·rename_i hw; exact ⟨.tup [], S, .inr ⟨hw, rfl, rfl⟩, h⟩
 ·exact h.elim
theorem XX {cls : Op → Cls} {ops : Array Oper} {j : Nat} {oi oj : Oper} {v : AV} {e : Af} {S Si : Ae} (hj : ops[j]? = some oj) (hap : GV lp wp cls ops oi oj = true) {K : Af → Ae → Prop}
  (hy : JE P Kp lp wp cls ops oi e S v Si) (h : xOp4 P Kp lp wp cls ops j K (Pe.put e oi.dst v) Si) :
  xOp4 P Kp lp wp cls ops j (fun e' S' => ∃ Si', JE P Kp lp wp cls ops oi e' S' v Si' ∧ K (Pe.put e' oi.dst v) Si') e S := by
 have hap0 := hap;simp only [GV, Bool.and_eq_true] at hap;obtain ⟨h1, h2, h3⟩ := Oper.apart_spec hap.1;have keep : ∀ u, CL ops oi (Pe.put e oj.dst u) = CL ops oi e := fun u => Ng h3
 unfold xOp4 at *;simp only [hj] at *;rw [Ng h1] at h;split
 ·rename_i hw
  simp only [hw] at h;obtain ⟨u, Sj, hu, hn⟩ := h;rw [Cj.put h1] at hu;rcases hy with ⟨hwi, hx⟩ | ⟨hwi, rfl, rfl⟩
  ·obtain ⟨Sm, a1, a2⟩ := Cj.swap hap0 hx hu
   exact ⟨u, Sm, a1, Sj, .inl ⟨by rw [keep]; exact hwi, (Cj.put h3).2 a2⟩, by rw [← E8 e v u h2]; exact hn⟩
  ·exact ⟨u, Sj, hu, Sj, .inr ⟨by rw [keep]; exact hwi, rfl, rfl⟩, by rw [← E8 e _ u h2]; exact hn⟩
 ·rename_i hw
  simp only [hw] at h;refine ⟨Si, ?_, by rw [← E8 e v _ h2]; exact h⟩
  rcases hy with ⟨hwi, hx⟩ | ⟨hwi, rfl, rfl⟩
  ·exact .inl ⟨by rw [keep]; exact hwi, (Cj.put h3).2 hx⟩
  ·exact .inr ⟨by rw [keep]; exact hwi, rfl, rfl⟩
 ·rename_i hw
  simp only [hw] at h
def FW (P : Program) (Kp lp wp : List Nat) (cls : Op → Cls) (ops : Array Oper) (Q : Af → Ae → Prop) : List Oper → Af → Ae → Prop
 | [], e, S => Q e S
 | o :: rest, e, S => match CL ops o e with
  | some true => ∃ v S', Cj P Kp lp wp cls o e S v S' ∧ FW P Kp lp wp cls ops Q rest (Pe.put e o.dst v) S'
  | some false => FW P Kp lp wp cls ops Q rest (Pe.put e o.dst (.tup [])) S
  | none => False
def OZ (lp wp : List Nat) (cls : Op → Cls) (md : Region.Mode) (ops : Array Oper) (listed : Array Bool) (k : Nat) : Bool :=
 match ops[k]? with
 | none => false
 | some ok => (List.range ops.size).all fun j =>
  match ops[j]? with
  | none => true
  | some oj => j == k || listed.getD j true || Cc md ops k 8 j || GV lp wp cls ops ok oj
theorem ZcT {cls : Op → Cls} {md : Region.Mode} {ops : Array Oper} {listed : Array Bool} {k : Nat} {ok : Oper} (hk : ops[k]? = some ok) (h : OZ lp wp cls md ops listed k = true) :
  ∀ (j : Nat) oj, ops[j]? = some oj → j ≠ k → listed.getD j true = false → (∀ n, Cc md ops k n j = false) → GV lp wp cls ops ok oj = true := by
 intro j oj hj hne hun hno;unfold OZ at h;rw [hk] at h;simp only at h
 have hlt : j < ops.size := (Array.getElem?_eq_some_iff.1 hj).1
 have h1 := (List.all_eq_true.1 h) j (List.mem_range.2 hlt);rw [hj] at h1;simp only [Bool.or_eq_true, beq_iff_eq] at h1;rcases h1 with ((h1 | h1) | h1) | h1
 ·exact absurd h1 hne
 ·rw [hun] at h1; cases h1
 ·rw [hno 8] at h1; cases h1
 ·exact h1
theorem X6 {cls : Op → Cls} {md : Region.Mode} {ops : Array Oper} {Q : Af → Ae → Prop} {i : Nat} {oi : Oper} {v : AV} (hi : ops[i]? = some oi) :
  ∀ (fuel : Nat) (listed : Array Bool) (e : Af) (S Si : Ae),
   (∀ n j, Cc md ops i n j = true → listed.getD j true = false) →
   (∀ (j : Nat) oj, ops[j]? = some oj → j ≠ i → listed.getD j true = false → (∀ n, Cc md ops i n j = false) → GV lp wp cls ops oi oj = true) →
   i ∈ Region.ready md ops listed → JE P Kp lp wp cls ops oi e S v Si →
   JK P Kp lp wp cls md ops Q fuel (listed.setIfInBounds i true) (Pe.put e oi.dst v) Si → JK P Kp lp wp cls md ops Q (fuel + 1) listed e S := by
 intro fuel;induction fuel with
 | zero =>
  intro listed e S Si _ _ hr hy H;refine ⟨fun h => (by rw [h] at hr; cases hr), fun j hj => ?_⟩
  by_cases hji : j = i
  ·subst hji; exact hy.xOp4 hi H
  ·have := ready_mono hj hji
   rw [H.1] at this;cases this
 | succ fuel ih =>
  intro listed e S Si hinv hfree hr hy H;refine ⟨fun h => (by rw [h] at hr; cases hr), fun j hj => ?_⟩
  by_cases hji : j = i
  ·subst hji; exact hy.xOp4 hi H
  ·have h1 := H.2 j (ready_mono hj hji)
   have hnd := U2 hinv hj hji;obtain ⟨hjun, oj, hoj, hall⟩ := mem_ready.1 hj;have h2 := XX hoj (hfree j oj hoj hji hjun hnd) hy h1;have hinv' : ∀ n k, Cc md ops i n k = true → (listed.setIfInBounds j true).getD k true = false := fun n k hk => by
    have hjk : j ≠ k := fun e => by rw [← e, hnd n] at hk; cases hk
    rw [getD_set_ne true hjk];exact hinv n k hk
   have hfree' : ∀ (k : Nat) ok, ops[k]? = some ok → k ≠ i → (listed.setIfInBounds j true).getD k true = false →
     (∀ n, Cc md ops i n k = false) → GV lp wp cls ops oi ok = true := fun k ok hk hki hun hno => by
    refine hfree k ok hk hki ?_ hno
    by_cases hjk : j = k
    ·subst hjk; exact hjun
    ·rw [getD_set_ne true hjk] at hun; exact hun
   refine XY (fun e' S' h3 => ?_) h2
   obtain ⟨Si', h3, h4⟩ := h3;refine ih (listed.setIfInBounds j true) e' S' Si' hinv' hfree' (ready_mono hr (Ne.symm hji)) h3 ?_
   rw [Array.setIfInBounds_comm _ _ hji];exact h4
def Ko (lp wp : List Nat) (cls : Op → Cls) (md : Region.Mode) (ops : Array Oper) : List Nat → Array Bool → Bool
 | [], listed => (Region.ready md ops listed).isEmpty
 | k :: r, listed => (Region.ready md ops listed).contains k && OZ lp wp cls md ops listed k && Ko lp wp cls md ops r (listed.setIfInBounds k true)
def OC (lp wp : List Nat) (cls : Op → Cls) (ops : Array Oper) (ord : List Nat) : Bool := ord.length == ops.size && Ko lp wp cls .any ops ord (Array.replicate ops.size false)
theorem Qb {cls : Op → Cls} {md : Region.Mode} {ops : Array Oper} {Q : Af → Ae → Prop} : ∀ (l : List Nat) (listed : Array Bool) (e : Af) (S : Ae), IP md ops listed →
  Ko lp wp cls md ops l listed = true → FW P Kp lp wp cls ops Q (l.filterMap fun i => ops[i]?) e S → JK P Kp lp wp cls md ops Q l.length listed e S
 | [], _, _, _, _, hB, h => ⟨by simpa [Ko] using hB, h⟩
 | k :: l, listed, e, S, hc, hB, h => by
  simp only [Ko, Bool.and_eq_true] at hB;obtain ⟨⟨hr, hf⟩, hB'⟩ := hB;have hr : k ∈ Region.ready md ops listed := by simpa using hr
  obtain ⟨hun, o, h0, _⟩ := mem_ready.1 hr;rw [List.filterMap_cons, h0] at h;have hst : xOp4 P Kp lp wp cls ops k (FW P Kp lp wp cls ops Q (l.filterMap fun i => ops[i]?)) e S := by unfold xOp4; simp only [h0]; exact h
  obtain ⟨v, S', hy, hK⟩ := XW h0 hst;exact X6 h0 l.length listed e S S' (U1 hc hun) (ZcT h0 hf) hr hy (Qb l _ _ _ (Vo hc hr) hB' hK)
theorem ZaI {ro : Option Nat} {cls : Op → Cls} {ops : Array Oper} {ord : List Nat} {id : Nat} {Q : Af → Ae → Prop} {Q' : Exit → Act → World → Prop} {e : Af} {S : Ae} {a : Act} {w : World} (hm : P.follows .mixedOrders = true) (hB : OC lp wp cls ops ord = true) (hds : Eh N ops = true)
  (hQ : ∀ e S a w, AP N w0 g0 e S a w → Q e S → Q' .normal a w) (hc : AP N w0 g0 e S a w) (h : FW P Kp lp wp cls ops Q (ord.filterMap fun i => ops[i]?) e S) : (Code.region id ops true).wpIn (wR ro) 0 P Q' a w := by
 refine wpIn_region_any hm (Lf (Kp := Kp) (lp := lp) (wp := wp) (cls := cls) hds hQ _ _ e S a _ (hc.draw _) ?_)
 simp only [OC, Bool.and_eq_true, beq_iff_eq] at hB;have h0 : IP .any ops (Array.replicate ops.size false) := fun j oj hj hl => by
  have hlt : j < ops.size := (Array.getElem?_eq_some_iff.1 hj).1
  simp [hlt] at hl
 have := Qb (md := .any) ord (Array.replicate ops.size false) e S h0 hB.2 h;rw [hB.1] at this;exact this
end
inductive CD where
 | of (c : CC) | seq (a b : CD) | cond (c : Operand) (t f : CD) | block (id : Nat) (b : CD) | loop (b : CD) | spec (Kp lp wp : List Nat) (l : List AO) | weak (c : CD)
def PN (N0 : Nat) (e : Af) (S : Ae) (K : Af → Ae → Prop) : Prop := ∃ e' S', Ay N0 e S e' S' ∧ K e' S'
theorem Qj {N0 : Nat} {e : Af} {S : Ae} {K : Af → Ae → Prop} (h : K e S) : PN N0 e S K := ⟨e, S, Ay.refl N0 e S, h⟩
def Je (Kp : List Nat) (op : Op) (e : Af) : Bool := match op with
 | .load _ x => (match ev e x with
  | .ptr k _ => Kp.contains k
  | .pst _ _ => !Kp.isEmpty
  | _ => false)
 | _ => false
def ZfM (P : Program) (op : Op) (e : Af) (S : Ae) (v : AV) (S' : Ae) : Prop := S'.length = S.length ∧ match op with
 | .call c => (match c.callee with
  | .value (.func f) => ∀ R, AC P f ((c.args.toList.map (ev e)).map AV.wk) (S ++ R) v (S' ++ R)
  | _ => False)
 | _ => False
def PP (P : Program) (op : Op) (e : Af) (S : Ae) : Option (AV × SObj) := match op with
 | .call c => (match c.callee with
  | .builtin .append => (match c.args.toList, c.argTypes.toList with
   | [x, y], [t, u] => KZ P t u S (ev e x) (ev e y)
   | _, _ => none)
  | _ => none)
 | _ => none
def DG (P : Program) (pf rf : List FuncId) (Kp lp wp : List Nat) : List AO → Af → Ae → (Af → Ae → Prop) → Prop
 | [], e, S, K => K e S
 | o :: rest, e, S, K => o.gd = none ∧ match GU lp wp o.dst o.op with
  | .rp => Bh P pf rf [⟨o.dst, o.op, none⟩] e S (fun e' S' => Je Kp o.op e = true ∧ DG P pf rf Kp lp wp rest e' S' K)
  | .ap => ∃ v z, PP P o.op e S = some (v, z) ∧ keeps Kp S (S ++ [z]) ∧ DG P pf rf Kp lp wp rest (put e o.dst v) (S ++ [z]) K
  | .wr => ∃ v S', ZfM P o.op e S v S' ∧ keeps Kp S S' ∧ DG P pf rf Kp lp wp rest (put e o.dst v) S' K
  | _ => Bh P pf rf [⟨o.dst, o.op, none⟩] e S (fun e' S' => keeps Kp S S' ∧ DG P pf rf Kp lp wp rest e' S' K)
def BD (P : Program) (pf rf : List FuncId) (N0 : Nat) : CD → (AX → Af → Ae → Prop) → Af → Ae → Prop
 | .of c, Q, e, S => AW P pf rf N0 c Q e S
 | .spec Kp lp wp l, Q, e, S => DG P pf rf Kp lp wp l e S (Q .norm)
 | .weak c, Q, e, S => PN N0 e S (BD P pf rf N0 c Q)
 | .seq a b, Q, e, S => BD P pf rf N0 a (Ec Q (BD P pf rf N0 b Q)) e S
 | .cond c t f, Q, e, S => match ev e c with
  | .bo b => C5 b (BD P pf rf N0 t Q e S) (BD P pf rf N0 f Q e S)
  | _ => False
 | .block id b, Q, e, S => BD P pf rf N0 b (EA id Q) e S
 | .loop b, Q, e, S => JH N0 (BD P pf rf N0 b) Q e S
def BT (sp : List (Nat × (List Nat × List Nat × List Nat))) : Code → Bool
 | .region id _ _ => (sp.lookup id).isSome
 | .seq a b => BT sp a || BT sp b
 | .cond _ a b => BT sp a || BT sp b
 | .block _ b => BT sp b
 | .loop b => BT sp b
 | _ => false
def Ml (ord : List (Nat × List Nat)) (id : Nat) (ops : Array Oper) : List Nat := match ord.lookup id with
 | none => List.range ops.size
 | some l => l
def BK (sp : List (Nat × (List Nat × List Nat × List Nat))) (ord : List (Nat × List Nat)) (c : Code) : CD :=
 if !BT sp c then .of (DD ord c) else match c with
 | .region id ops d => (match sp.lookup id with
  | some (Kp, lp, wp) => if lp.isEmpty && wp.isEmpty then .weak (.of (DD ord (.region id ops d))) else .weak (.spec Kp lp wp ((if d then (Ml ord id ops).filterMap (fun i => ops[i]?) else ops.toList).map (DB ops)))
  | none => .of .bad)
 | .seq a b => .seq (BK sp ord a) (BK sp ord b)
 | .cond c a b => .cond c (BK sp ord a) (BK sp ord b)
 | .block id b => .block id (BK sp ord b)
 | .loop b => .loop (BK sp ord b)
 | _ => .of .bad
def C9 (P : Program) (pf rf : List FuncId) (N : Nat) (sp : List (Nat × (List Nat × List Nat × List Nat))) (ord : List (Nat × List Nat)) : Code → Bool
 | .region id ops draw => (match sp.lookup id with
  | some (_, lp, wp) => if lp.isEmpty && wp.isEmpty then D7 P pf rf N ord (.region id ops draw) else Eh N ops && (!draw || OC lp wp (Dq P pf rf) ops (Ml ord id ops))
  | none => D7 P pf rf N ord (.region id ops draw))
 | .seq a b => C9 P pf rf N sp ord a && C9 P pf rf N sp ord b
 | .cond _ a b => C9 P pf rf N sp ord a && C9 P pf rf N sp ord b
 | .block _ b => C9 P pf rf N sp ord b
 | .loop b => C9 P pf rf N sp ord b
 | _ => true
section
variable {P : Program} {N N0 : Nat} {w0 : World} {g0 : Gh} {pf rf : List FuncId} {sp : List (Nat × (List Nat × List Nat × List Nat))} {ord : List (Nat × List Nat)}
theorem Zdv {c : Code} (h : BT sp c = false) : BK sp ord c = .of (DD ord c) := by
 unfold BK;rw [h];rfl
theorem Zdu {a b : Code} (h : BT sp (.seq a b) = true) : BK sp ord (.seq a b) = .seq (BK sp ord a) (BK sp ord b) := by
 rw [BK, h];rfl
theorem Zdx {x : Operand} {a b : Code} (h : BT sp (.cond x a b) = true) : BK sp ord (.cond x a b) = .cond x (BK sp ord a) (BK sp ord b) := by
 rw [BK, h];rfl
theorem Zdy {id : Nat} {b : Code} (h : BT sp (.block id b) = true) : BK sp ord (.block id b) = .block id (BK sp ord b) := by
 rw [BK, h];rfl
theorem Zdw {b : Code} (h : BT sp (.loop b) = true) : BK sp ord (.loop b) = .loop (BK sp ord b) := by
 rw [BK, h];rfl
theorem Zeu : ∀ {c : Code}, BT sp c = false → C9 P pf rf N sp ord c = true → D7 P pf rf N ord c = true := by
 intro c;induction c with
 | region id ops d =>
  intro h hk;simp only [BT, Option.isSome_eq_false_iff, Option.isNone_iff_eq_none] at h;simpa only [C9, h] using hk
 | seq a b iha ihb =>
  intro h hk;simp only [BT, Bool.or_eq_false_iff] at h;simp only [C9, D7, Bool.and_eq_true] at hk ⊢;exact ⟨iha h.1 hk.1, ihb h.2 hk.2⟩
 | cond x a b iha ihb =>
  intro h hk;simp only [BT, Bool.or_eq_false_iff] at h;simp only [C9, D7, Bool.and_eq_true] at hk ⊢;exact ⟨iha h.1 hk.1, ihb h.2 hk.2⟩
 | block id b ih => intro h hk; exact ih (by simpa only [BT] using h) (by simpa only [C9] using hk)
 | loop b ih => intro h hk; exact ih (by simpa only [BT] using h) (by simpa only [C9] using hk)
 | _ => intro _ _; rfl
theorem JC {ro : Option Nat} (hm : P.follows .mixedOrders = true) (hN0 : g0.nid = N0) {c : Code} {Q : AX → Af → Ae → Prop} {e : Af} {S : Ae} {a : Act} {w : World} (hns : BT sp c = false) (hok : C9 P pf rf N sp ord c = true) (hc : AP N w0 g0 e S a w) (h : BD P pf rf N0 (BK sp ord c) Q e S) : c.wpIn (wR ro) 0 P (Eo N w0 g0 Q) a w := by
 rw [Zdv hns] at h;exact Xa hm hN0 c Q e S a w (Zeu hns hok) hc h
theorem ZdY {o : Oper} {t : TypeId} {x : Operand} {e : Af} {S : Ae} {v : AV} {Kp : List Nat} (ho : o.op = .load t x) (hv : DW (AA P t) S (ev e x) = some v) (hp : Je Kp o.op e = true) : ∃ k ∈ Kp, ∀ S2 : Ae, S2[k]? = S[k]? → A0 P o e S2 v S2 := by
 rw [ho] at hp;unfold Je at hp;simp only at hp
 split at hp
 ·rename_i k off hx
  refine ⟨k, by simpa using hp, fun S2 h2 => Pm ho ?_⟩
  rw [hx] at hv ⊢;unfold DW at hv ⊢;split at hv
  ·rename_i hz he
   cases he
   simp only [h2];exact hv
  ·rename_i he; cases he
  ·rename_i he; cases he
  ·cases hv
 ·rename_i u off hx
  obtain ⟨k, hk⟩ : ∃ k, k ∈ Kp := by
   cases Kp with
   | nil => cases hp
   | cons k _ => exact ⟨k, by simp⟩
  refine ⟨k, hk, fun S2 _ => Pm ho ?_⟩
  rw [hx] at hv ⊢;cases hz : AA P t with
  | none => rw [hz] at hv; cases hv
  | some z => rw [hz] at hv; exact hv
 ·cases hp
theorem HU {Kp lp wp : List Nat} {ops : Array Oper} {Q : Af → Ae → Prop} : ∀ (l : List Oper) (e : Af) (S : Ae), DG P pf rf Kp lp wp (l.map (DB ops)) e S Q → FW P Kp lp wp (Dq P pf rf) ops Q l e S
 | [], e, S, h => h
 | o :: rest, e, S, h => by
  simp only [List.map_cons, DG] at h;obtain ⟨hgd, h⟩ := h;have hg : CL ops o e = some true := by
   unfold DB at hgd;unfold CL;cases hx : o.guard with
   | none => rfl
   | some p => obtain ⟨j, want⟩ := p; rw [hx] at hgd; cases hgd
  have hop : (DB ops o).op = o.op := rfl;have hds : (DB ops o).dst = o.dst := rfl;rw [hop, hds] at h;unfold GU at h;unfold FW;simp only [hg];unfold Cj;have one : ∀ K : Af → Ae → Prop, Bh P pf rf [⟨o.dst, o.op, none⟩] e S K → Ba P pf rf o.op e S (fun v S' => K (put e o.dst v) S') := fun K h => by
   rw [Bh] at h;obtain ⟨b, hb, h⟩ := CB h;cases hb
   have h := h.1 rfl;have e1 : (fun v S' => Bh P pf rf [] (put e o.dst v) S' K) = fun v S' => K (put e o.dst v) S' := by funext v S'; rw [Bh]
   rw [e1] at h;exact h
  cases hk : FG lp wp o.dst o.op with
  | rp =>
   rw [hk] at h;simp only at h ⊢
   have h := one _ h;cases hl : o.op with
   | load t x =>
    rw [hl] at h;unfold Ba at h;simp only at h
    obtain ⟨v, hv, h1, h2⟩ := CB h;rw [← hl] at h1;exact ⟨v, S, ⟨rfl, ZdY hl hv h1⟩, HU rest _ _ h2⟩
   | _ =>
    exfalso;obtain ⟨v, S', _, h2, _⟩ := PU h;unfold Je at h2;rw [hl] at h2;cases h2
  | wr =>
   rw [hk] at h;simp only at h ⊢
   obtain ⟨v, S', ⟨h1, h2⟩, h3, h4⟩ := h;refine ⟨v, S', ⟨h1, h3, fun R => ?_⟩, HU rest _ _ h4⟩
   split at h2
   ·rename_i c ho
    split at h2
    ·rename_i f hf
     refine KJ (fa := []) (ca := []) ho hf rfl ?_
     simp only [List.nil_append, List.append_nil];exact (h2 R).weak
    ·exact h2.elim
   ·exact h2.elim
  | al =>
   rw [hk] at h;simp only at h ⊢
   cases hl : o.op with
   | alloc t =>
    rw [hl] at h;simp only at h
    rw [← hl] at h;have h := one _ h;rw [hl] at h;unfold Ba at h;simp only at h
    obtain ⟨z, hz, h1, h2⟩ := CB h;refine ⟨_, _, ⟨⟨_, rfl, fun S2 h3 => ?_⟩, h1⟩, HU rest _ _ h2⟩
    rw [← h3];exact UY hl hz
   | call c =>
    rw [hl] at h;simp only at h
    obtain ⟨v, z, h1, h2, h3⟩ := h;unfold PP at h1;simp only at h1
    split at h1
    ·rename_i hb
     split at h1
     ·rename_i x y t u hargs hts
      have hc : c = { callee := .builtin .append, args := #[x, y], argTypes := #[t, u] } := by
       cases c with | mk ce ar at_ =>
       simp only at hb hargs hts
       rw [hb];congr 1
       ·exact Array.ext' hargs
       ·exact Array.ext' hts
      refine ⟨_, _, ⟨⟨_, rfl, fun S2 h4 => Zd2 (by rw [hl, hc]) ?_⟩, h2⟩, HU rest _ _ h3⟩
      unfold KZ at h1 ⊢;rw [h4];exact h1
     ·cases h1
    ·cases h1
   | _ =>
    exfalso;unfold FG at hk;rw [hl] at hk;split at hk
    ·split at hk
     ·cases hk
     ·split at hk <;> cases hk
    ·cases hk
  | ot =>
   rw [hk] at h;simp only at h ⊢
   have h := one _ h;obtain ⟨v, S', h1, h3, h4⟩ := PU h;exact ⟨v, S', ⟨h1, h3⟩, HU rest _ _ h4⟩
theorem Nu {ro : Option Nat} {Kp lp wp : List Nat} {cls : Op → Cls} {ops : Array Oper} {Q : Af → Ae → Prop} {Q' : Exit → Act → World → Prop} (hds : Eh N ops = true) (hQ : ∀ e S a w, AP N w0 g0 e S a w → Q e S → Q' .normal a w) :
  ∀ (l : List Oper), (∀ o ∈ l, ∃ i : Nat, ops[i]? = some o) → ∀ (e : Af) (S : Ae) (a : Act) (w : World), AP N w0 g0 e S a w → FW P Kp lp wp cls ops Q l e S → wpListIn (wR ro) 0 P ops Q' l a w
 | [], _, e, S, a, w, hc, h => hQ e S a w hc h
 | o :: l, hl, e, S, a, w, hc, h => by
  obtain ⟨i, hi⟩ := hl o (by simp)
  have hd := MR hds hi;have her : ∃ g, Cv w g e a := by obtain ⟨_, _, g, _, h4, _⟩ := hc; exact ⟨g, h4⟩
  obtain ⟨g, her⟩ := her;unfold FW at h;unfold wpListIn;split at h
  ·rename_i hw
   rw [Ha her hw];obtain ⟨v, S', h1, h2⟩ := h;simp only [if_true];exact hc.does hd h1.does (fun a' w' hc' => Nu hds hQ l (fun o ho => hl o (by simp [ho])) _ _ a' w' hc' h2) ro
  ·rename_i hw
   rw [Ha her hw];simp only [Bool.false_eq_true, if_false];exact ⟨fun _ _ => trivial, Nu hds hQ l (fun o ho => hl o (by simp [ho])) _ _ _ w (hc.skip hd) h⟩
  ·exact h.elim
theorem W9 {ro : Option Nat} (hm : P.follows .mixedOrders = true) (hN0 : g0.nid = N0) : ∀ (c : Code) (Q : AX → Af → Ae → Prop) (e : Af) (S : Ae) (a : Act) (w : World), C9 P pf rf N sp ord c = true → AP N w0 g0 e S a w → BD P pf rf N0 (BK sp ord c) Q e S → c.wpIn (wR ro) 0 P (Eo N w0 g0 Q) a w := by
 intro c;induction c with
 | region id ops draw =>
  intro Q e S a w hok hc h;cases hns : BT sp (.region id ops draw) with
  | false => exact JC hm hN0 hns hok hc h
  | true =>
   simp only [BT] at hns;obtain ⟨⟨Kp, lp, wp⟩, hs⟩ := Option.isSome_iff_exists.1 hns;have hQ : ∀ e S a w, AP N w0 g0 e S a w → Q .norm e S → Eo N w0 g0 Q .normal a w := fun e S a w hc hq => ⟨e, S, hc, hq⟩
   simp only [C9, hs] at hok;simp only [BK, BT, hs, Option.isSome_some, Bool.not_true, Bool.false_eq_true, if_false] at h;by_cases hem : (lp.isEmpty && wp.isEmpty) = true
   ·rw [if_pos hem] at h hok
    simp only [BD] at h;obtain ⟨e1, S1, hwk, h⟩ := h;exact Xa hm hN0 _ Q e1 S1 a w hok (hwk N w0 g0 a w hN0 hc) h
   ·rw [if_neg hem] at h hok
    simp only [BD] at h;obtain ⟨e1, S1, hwk, h⟩ := h;have hc1 := hwk N w0 g0 a w hN0 hc;simp only [Bool.and_eq_true] at hok;cases draw with
    | true =>
     simp only [if_true, Bool.not_true, Bool.false_or] at h hok;exact ZaI hm hok.2 hok.1 hQ hc1 (HU _ e1 S1 h)
    | false =>
     simp only [Bool.false_eq_true, if_false] at h;refine wpIn_region_list (Nu (cls := Dq P pf rf) hok.1 hQ ops.toList (fun o ho => ?_) e1 S1 a w hc1 (HU _ e1 S1 h))
     obtain ⟨i, hi⟩ := List.mem_iff_getElem?.1 ho;exact ⟨i, by simpa using hi⟩
 | seq x y ihx ihy =>
  intro Q e S a w hok hc h;cases hns : BT sp (.seq x y) with
  | false => exact JC hm hN0 hns hok hc h
  | true =>
   rw [Zdu hns] at h;simp only [C9, Bool.and_eq_true] at hok;simp only [BD] at h;refine wpIn_seq (Go.wpIn_mono (ihx _ e S a w hok.1 hc h) ?_)
   intro ex a' w' hq;cases ex with
   | normal => obtain ⟨e', S', hc', h'⟩ := hq; exact ihy Q e' S' a' w' hok.2 hc' h'
   | exit id => exact hq
   | ret => exact hq
   | _ => exact hq.elim
 | cond c x y ihx ihy =>
  intro Q e S a w hok hc h;cases hns : BT sp (.cond c x y) with
  | false => exact JC hm hN0 hns hok hc h
  | true =>
   rw [Zdx hns] at h;simp only [C9, Bool.and_eq_true] at hok;simp only [BD] at h;split at h
   ·rename_i b hb
    have hcb : a.eval c = .bool b := by
     obtain ⟨_, _, g, _, h4, _⟩ := hc;have := Jt h4 c;rw [hb] at this;cases hv : a.eval c <;> rw [hv] at this <;> cases this
     rfl
    refine wpIn_cond_split hcb (fun ht => ihx Q e S a w hok.1 hc (h.1 ht)) (fun hf => ihy Q e S a w hok.2 hc (h.2 hf))
   ·exact h.elim
 | block id c ih =>
  intro Q e S a w hok hc h;cases hns : BT sp (.block id c) with
  | false => exact JC hm hN0 hns hok hc h
  | true =>
   rw [Zdy hns] at h;simp only [BD] at h;refine wpIn_block (Go.wpIn_mono (ih _ e S a w hok hc h) ?_)
   intro ex a' w' hq;cases ex with
   | normal => exact hq
   | exit i =>
    obtain ⟨e', S', hc', h'⟩ := hq;simp only [EA] at h';simp only [Exit.inBlock];by_cases hi : i = id
    ·rw [if_pos hi] at h' ⊢; exact ⟨e', S', hc', h'⟩
    ·rw [if_neg hi] at h' ⊢; exact ⟨e', S', hc', h'⟩
   | ret => exact hq
   | _ => exact hq.elim
 | loop c ih =>
  intro Q e S a w hok hc h;cases hns : BT sp (.loop c) with
  | false => exact JC hm hN0 hns hok hc h
  | true =>
   rw [Zdw hns] at h;simp only [BD] at h;obtain ⟨I, ⟨n, e', S', hwk, hI⟩, hround⟩ := h;refine Ld (fun n a w => ∃ e S, AP N w0 g0 e S a w ∧ I n e S) n ⟨e', S', hwk N w0 g0 a w hN0 hc, hI⟩ ?_
   rintro n a w ⟨e, S, hc, hI⟩
   refine Go.wpIn_mono (ih _ e S a w hok hc (hround n e S hI)) ?_
   intro ex a' w' hq;cases ex with
   | normal =>
    obtain ⟨e1, S1, hc1, n', e2, S2, hlt, hwk', hI'⟩ := hq;exact ⟨n', hlt, e2, S2, hwk' N w0 g0 a' w' hN0 hc1, hI'⟩
   | exit i => exact hq
   | ret => exact hq
   | _ => exact hq.elim
 | _ =>
  intro Q e S a w hok hc h;exact JC hm hN0 rfl hok hc h
end
section
variable {P : Program}
theorem AC.enter4 {f : FuncId} {fn : Func} {c : Code} {args : List AV} {S S' : Ae} {v : AV} (pf rf : List FuncId) (sp : List (Nat × (List Nat × List Nat × List Nat))) (ord : List (Nat × List Nat)) (hf : P.funcs[f]? = some fn) (hb : fn.body = some c) (hname : fn.name ≠ "runtime.NumGoroutine") (hm : P.follows .mixedOrders = true)
  (hn : args.length ≤ fn.ntmps) (hok : C9 P pf rf fn.ntmps sp ord c = true) (h : BD P pf rf S.length (BK sp ord c) (C6 P fn.results.toList S.length v S') (Ci args) S) : AC P f args S v S' := by
 exact AC.of_wp hf hb hname hn fun w g a hg hc => W9 hm hg c _ (Ci args) S a w hok hc h
end
section
variable (P : Program) (pf rf : List FuncId) (N0 : Nat) (Q : AX → Af → Ae → Prop) (e : Af) (S : Ae) (K : Af → Ae → Prop)
theorem W1 (c : CC) : BD P pf rf N0 (.of c) Q e S = AW P pf rf N0 c Q e S := rfl
theorem W0 (a b : CD) : BD P pf rf N0 (.seq a b) Q e S = BD P pf rf N0 a (Ec Q (BD P pf rf N0 b Q)) e S := rfl
theorem WY (c : CD) : BD P pf rf N0 (.weak c) Q e S = PN N0 e S (BD P pf rf N0 c Q) := rfl
theorem WZ (Kp lp wp : List Nat) (l : List AO) : BD P pf rf N0 (.spec Kp lp wp l) Q e S = DG P pf rf Kp lp wp l e S (Q .norm) := rfl
def PQ (c : CD) : Prop := BD P pf rf N0 c Q e S
theorem W3 (c : Operand) (t f : CD) : BD P pf rf N0 (.cond c t f) Q e S = KN (ev e c) (PQ P pf rf N0 Q e S t) (PQ P pf rf N0 Q e S f) := rfl
theorem WX (c : CD) : PQ P pf rf N0 Q e S c = BD P pf rf N0 c Q e S := rfl
theorem W4 (id : Nat) (b : CD) : BD P pf rf N0 (.block id b) Q e S = BD P pf rf N0 b (EA id Q) e S := rfl
theorem W2 (b : CD) : BD P pf rf N0 (.loop b) Q e S = JH N0 (BD P pf rf N0 b) Q e S := rfl
theorem Xj (Kp lp wp : List Nat) : DG P pf rf Kp lp wp [] e S K = K e S := rfl
end
def Q5 (P : Program) (pf rf : List FuncId) (K : Af → Ae → Prop) (Kp lp wp : List Nat) (op : Op) (rest : List AO) (e : Af) (e' : Af) (S' : Ae) : Prop := Je Kp op e = true ∧ DG P pf rf Kp lp wp rest e' S' K
def Q6 (P : Program) (pf rf : List FuncId) (K : Af → Ae → Prop) (Kp lp wp : List Nat) (rest : List AO) (S : Ae) (e' : Af) (S' : Ae) : Prop := keeps Kp S S' ∧ DG P pf rf Kp lp wp rest e' S' K
section
variable {P : Program} {pf rf : List FuncId} {e e' : Af} {S S' : Ae} {K : Af → Ae → Prop} {Kp lp wp : List Nat} {rest : List AO}
theorem PM {d : Option Nat} {op : Op} (h : Bh P pf rf [⟨d, op, none⟩] e S (Q5 P pf rf K Kp lp wp op rest e)) (hk : GU lp wp d op = .rp := by rfl) : DG P pf rf Kp lp wp (⟨d, op, none⟩ :: rest) e S K := by
 refine ⟨rfl, ?_⟩
 show match GU lp wp d op with
  | .rp => _
  | .ap => _
  | .wr => _
  | _ => _
 rw [hk];exact h
theorem a4 {d : Option Nat} {op : Op} (h : Bh P pf rf [⟨d, op, none⟩] e S (Q6 P pf rf K Kp lp wp rest S)) (hk : GU lp wp d op = .ot := by rfl) : DG P pf rf Kp lp wp (⟨d, op, none⟩ :: rest) e S K := by
 refine ⟨rfl, ?_⟩
 show match GU lp wp d op with
  | .rp => _
  | .ap => _
  | .wr => _
  | _ => _
 rw [hk];exact h
theorem p4 {d : Option Nat} {op : Op} {v : AV} {z : SObj} (h : PP P op e S = some (v, z)) (h' : DG P pf rf Kp lp wp rest (put e d v) (S ++ [z]) K) (hk : GU lp wp d op = .ap := by rfl) (hk' : keeps Kp S (S ++ [z]) := by (intro k hk; simp only [List.mem_cons, List.not_mem_nil, or_false] at hk; first | (subst hk; rfl) | (rcases hk with rfl | rfl <;> rfl) | (rcases hk with rfl | rfl | rfl <;> rfl))) : DG P pf rf Kp lp wp (⟨d, op, none⟩ :: rest) e S K := by
 refine ⟨rfl, ?_⟩
 show match GU lp wp d op with
  | .rp => _
  | .ap => _
  | .wr => _
  | _ => _
 rw [hk];exact ⟨v, z, h, hk', h'⟩
theorem k4 (h : DG P pf rf Kp lp wp rest e' S' K) (hk : keeps Kp S S' := by (intro k hk; simp only [List.mem_cons, List.not_mem_nil, or_false] at hk; first | (subst hk; rfl) | (rcases hk with rfl | rfl <;> rfl) | (rcases hk with rfl | rfl | rfl <;> rfl))) : Q6 P pf rf K Kp lp wp rest S e' S' := ⟨hk, h⟩
theorem ON {op : Op} (h : DG P pf rf Kp lp wp rest e' S' K) (hk : Je Kp op e = true := by rfl) : Q5 P pf rf K Kp lp wp op rest e e' S' := ⟨hk, h⟩
end
set_option maxRecDepth 100000
theorem run4 {A B : Prop} (h : B) (e : A = B := by
  conv =>
   lhs
   (try simp only [Nj, Nl, Nm, WX, Fe, FJ])
   (try simp -implicitDefEqProofs (maxSteps := 4000000) (disch := (first | omega | (simp only [List.length_append, List.length_cons, List.length_map, List.length_nil, List.length_take, List.length_drop]; omega))) only [↓W1, ↓W0, ↓WZ, ↓WY, ↓W3, ↓W4, ↓W2, ↓Xj, ↓K7, K8, CJ, ↓reduceIte, Nat.reduceEqDiff, Nat.reduceAdd, Nat.reduceLT, Nat.reduceLeDiff, Nat.reduceMul, Nat.reduceSub, Int.reduceToNat, Int.reduceAdd, Int.reduceSub, Int.reduceMul, Int.reduceNeg, Int.reduceLE, Int.reduceLT, Int.reduceEq, Int.reduceBEq, Int.reduceBNe, Nat.reduceBEq, Nat.reduceBNe, DX, Fm, Gq, Hq, II, IE, Hd, Gr, Hu, HM, HQ, HH, HJ, Fo, DW, He, IG, IH, HG, HE, FT, Fk, C4, FF, Fc, Ij, IF, Hj, Hz, IJ, Gs, F0, Hg, C1, GP, apart, ED, EB, HL, Fu, Gw, EY, AV.wk, AV.wk2, AV.wk1, AV.cells, AV.solid, AV.ro, AV.ro1, ← List.map_take, ← List.map_drop, reduceCtorEq, Option.isNone_some, Option.isSome_none, LP, LN, LB, Ls, Lr, Lq, Lp, Lo, Ln, Lm, LM, LL, LK, LJ, LI, LH, LF, LE, LD, LC, LA, Ly, Lx, Lw, Lv, Lu, Lt])
   (try simp only [Fe, FJ])) : A := e ▸ h
theorem runf4 {F A B : Prop} (f : F) (h : B) (e : F → A = B := by
  intro f;conv =>
   lhs
   (try simp only [Nj, Nl, Nm, WX, Fe, FJ])
   (try simp -implicitDefEqProofs (maxSteps := 4000000) (disch := (first | omega | (simp only [List.length_append, List.length_cons, List.length_map, List.length_nil, List.length_take, List.length_drop]; omega))) only [↓W1, ↓W0, ↓WZ, ↓WY, ↓W3, ↓W4, ↓W2, ↓Xj, ↓K7, K8, CJ, ↓reduceIte, Nat.reduceEqDiff, Nat.reduceAdd, Nat.reduceLT, Nat.reduceLeDiff, Nat.reduceMul, Nat.reduceSub, Int.reduceToNat, Int.reduceAdd, Int.reduceSub, Int.reduceMul, Int.reduceNeg, Int.reduceLE, Int.reduceLT, Int.reduceEq, Int.reduceBEq, Int.reduceBNe, Nat.reduceBEq, Nat.reduceBNe, DX, Fm, Gq, Hq, II, IE, Hd, Gr, Hu, HM, HQ, HH, HJ, Fo, DW, He, IG, IH, HG, HE, FT, Fk, C4, FF, Fc, Ij, IF, Hj, Hz, IJ, Gs, F0, Hg, C1, GP, apart, ED, EB, HL, Fu, Gw, EY, AV.wk, AV.wk2, AV.wk1, AV.cells, AV.solid, AV.ro, AV.ro1, ← List.map_take, ← List.map_drop, reduceCtorEq, Option.isNone_some, Option.isSome_none, LP, LN, LB, Ls, Lr, Lq, Lp, Lo, Ln, Lm, LM, LL, LK, LJ, LI, LH, LF, LE, LD, LC, LA, Ly, Lx, Lw, Lv, Lu, Lt, f])
   (try simp only [Fe, FJ])) : A := e f ▸ h
end Pe
namespace Pe
open Tryz
open Go Go.RowKit
variable [Tab]
end Pe
end
section
namespace Pe
open Tryz
open Go Go.RowKit
variable [Tab]
def GN (e : Af) (ps : List Tmp) (vs : List AV) : Af := (ps.zip vs).foldl (fun e p => upd e p.1 p.2) e
theorem Wj {N t : Nat} (e : Af) (h : t < N) : Ci (Cz N e) t = e t := by
 simp [Ci, Cz, h]
theorem Sb (e : Af) (vs : List AV) : GN e [] vs = e := by simp [GN]
theorem Zbp (e : Af) (p : Tmp) (ps : List Tmp) (v : AV) (vs : List AV) : GN e (p :: ps) (v :: vs) = GN (upd e p v) ps vs := rfl
theorem Sa {w : World} {g : Gh} : ∀ (q : List Tmp) (vs : List AV) (cs : List Value) (e : Af) (a : Act), vs.length = q.length → cs.length = q.length → (∀ (j : Nat) u x, vs[j]? = some u → cs[j]? = some x → Rel w g u x) → (∀ p ∈ q, p < a.tmps.size) → Cv w g e a →
  Cv w g (GN e q vs) { a with tmps := (q.zip cs).foldl (fun t p => t.setIfInBounds p.1 p.2) a.tmps } ∧ ((q.zip cs).foldl (fun t p => t.setIfInBounds p.1 p.2) a.tmps).size = a.tmps.size
 | [], vs, cs, e, a, _, _, _, _, he => ⟨by rw [Sb]; exact he, rfl⟩
 | p :: q, [], cs, e, a, h, _, _, _, _ => by simp at h
 | p :: q, v :: vs, [], e, a, _, h, _, _, _ => by simp at h
 | p :: q, v :: vs, c :: cs, e, a, h1, h2, h3, h4, he => by
  have hp : Cv w g (Pe.put e (some p) v) (a.put (some p) c) := he.put (fun x hx => by cases hx; exact h4 p (by simp)) (h3 0 v c rfl rfl)
  have := Sa q vs cs (upd e p v) (a.put (some p) c) (by simpa using h1) (by simpa using h2) (fun j u x hu hx => h3 (j + 1) u x (by simpa using hu) (by simpa using hx)) (fun x hx => by simpa [Act.put] using h4 x (by simp [hx])) hp
  refine ⟨this.1, ?_⟩
  have h5 := this.2;simp only [Act.put, Array.size_setIfInBounds] at h5;exact h5
section
variable {P : Program} {pf rf : List FuncId}
def Wd (N0 l : Nat) (o : LoopState → SObj) (S' : Ae) : AX → Af → Ae → Prop
 | .norm => fun e S => ∃ e1 S1 κ, Ay N0 e S e1 S1 ∧ S1[l]? = some (o .busy) ∧ SubOk κ (S1.set l (o .ready)) S' ∧ κ.take N0 = List.range N0
 | _ => fun _ _ => False
def Wi (l : Nat) (o : LoopState → SObj) (B : Af → Ae → Prop) : AX → Af → Ae → Prop
 | .norm => fun e S => S[l]? = some (o .ready) ∧ B e (S.set l (o .busy))
 | _ => fun _ _ => False
theorem Ov {w : World} {g : Gh} {S : Ae} {l b D : Nat} {fn : FuncId} {es : List AV} {ps : Array Tmp} {asn bdy : Code} {st : LoopState} (hw : WF w g S) (hl : S[l]? = some (.loop b D fn es ps asn bdy st)) :
  ∃ tm, w.heap[b]? = some (.loop { state := st, pending := none, fn, tmps := tm, params := ps, assign := asn, body := bdy, defers := D }) ∧ tm.size = es.length ∧ (∀ (j : Nat) u x, es[j]? = some u → tm[j]? = some x → Rel w g u x) ∧
   ∀ st', WF (w.putObj b (.loop { state := st', pending := none, fn, tmps := tm, params := ps, assign := asn, body := bdy, defers := D })) g (S.set l (.loop b D fn es ps asn bdy st')) ∧
    Evo w g (w.putObj b (.loop { state := st', pending := none, fn, tmps := tm, params := ps, assign := asn, body := bdy, defers := D })) g := by
 obtain ⟨b1, b2, b3, rfl, tm, b5, b6, b7⟩ := hw.obj _ _ hl;refine ⟨tm, b5, b6, b7, fun st' => ?_⟩
 refine hw.put (o := .loop (g.pl l) D fn es ps asn bdy st') (List.getElem?_eq_some_iff.1 hl).1 b2 b3 ?_
 have hle := Le.setObj (w := w) b3 (.loop { state := st', pending := none, fn, tmps := tm, params := ps, assign := asn, body := bdy, defers := D });have hlt := (Array.getElem?_eq_some_iff.1 b5).1
 exact ⟨b1, b2, b3, rfl, tm, by simp [hlt], b6, fun j u x hu hx => (b7 j u x hu hx).le hle⟩
theorem EF.of_wp {b D : Nat} {fn : FuncId} {es args : List AV} {ps : Array Tmp} {asn bdy : Code} {S S' : Ae} (pf rf : List FuncId) (l : Nat) (hl : S[l]? = some (.loop b D fn es ps asn bdy .ready)) (hlen : args.length = ps.size) (hps : ∀ p ∈ ps.toList, p < es.length)
  (hm : P.follows .mixedOrders = true) (hoa : DV P pf rf es.length asn = true) (hra : DS asn = true) (B : Af → Ae → Prop)
  (hB : ∀ (w0 : World) (g0 : Gh) (e : Af) (T : Ae) (a : Act) (w : World), g0.nid = S.length → AP es.length w0 g0 e T a w → B e T → bdy.wpIn (wR (some b)) 0 P (Eo es.length w0 g0 (Wd S.length l (.loop b D fn es ps asn bdy) S')) a w)
  (h : AW P pf rf S.length (C7 asn) (Wi l (.loop b D fn es ps asn bdy) B) (GN (Ci es) ps.toList args) S) : EF P b args S (.bo true) S' := by
 intro w g cargs hw hargs;obtain ⟨tm, b5, b6, b7, _⟩ := Ov hw hl;have hsz : cargs.size = ps.size := by rw [hargs.1, hlen]
 have hfold : (ps.zip cargs).foldl (fun tmps (t, a) => tmps.setIfInBounds t a) tm = (ps.toList.zip cargs.toList).foldl (fun t p => t.setIfInBounds p.1 p.2) tm := by
  rw [← Array.foldl_toList, Array.toList_zip]
 refine ⟨fn, _, asn, bdy, run_yield b5 hsz, ?_⟩
 have hE0 : Cv w g (Ci es) { tmps := tm, defers := [] } := fun t => by
  show Rel w g (es.getD t .junk) (tm.getD t undef)
  rw [List.getD_eq_getElem?_getD]
  cases ht : es[t]? with
  | none => exact .junk _ _
  | some u =>
   have hlt : t < tm.size := by rw [b6]; exact (List.getElem?_eq_some_iff.1 ht).1
   have h1 : tm[t]? = some tm[t] := Array.getElem?_eq_getElem hlt
   rw [Array.getD_eq_getD_getElem?, h1];exact b7 t u _ ht h1
 obtain ⟨hE1, hsz1⟩ := Sa ps.toList args cargs.toList (Ci es) { tmps := tm, defers := [] } (by simpa using hlen) (by simpa using hsz) (fun j u x hu hx => hargs.2 j u x hu (by simpa using hx)) (fun p hp => by show p < tm.size; rw [b6]; exact hps p hp) hE0
 refine roundIn_of_wpIn (F := Fence.wide) (n := 0) trivial ?_
 simp only at hE1 hsz1
 rw [← hfold] at hE1 hsz1;have hc : AP es.length w g (GN (Ci es) ps.toList args) S { tmps := (ps.zip cargs).foldl (fun tmps (t, a) => tmps.setIfInBounds t a) tm, defers := [] } w := ⟨hsz1.trans b6, trivial, g, hw, hE1, .none (Evo.refl w g)⟩
 have ha := Xb (some b) (.inr hra) hm hw.nid _ _ S _ w hoa hc h;refine Go.wpIn_mono (F := Fence.wide.inRound b) ha ?_
 intro ex a1 w1 hq;cases ex with
 | normal =>
  obtain ⟨e1, S1, ⟨c1, _, g1, c2, c3, c4⟩, hl1, hbd⟩ := hq;obtain ⟨tm1, d5, _, _, d8⟩ := Ov c2 hl1;obtain ⟨d9, d10⟩ := d8 .busy;refine ⟨_, run_beginRound d5 rfl, ?_⟩
  have hc1 : AP es.length w g e1 (S1.set l (.loop b D fn es ps asn bdy .busy)) a1 (w1.putObj b (.loop { state := .busy, pending := none, fn, tmps := tm1, params := ps, assign := asn, body := bdy, defers := D })) := ⟨c1, trivial, g1, d9, fun t => (c3 t).le d10.toLe, c4.trans d10⟩
  have hb := hB _ _ _ _ _ _ hw.nid hc1 hbd;refine Go.wpIn_mono (F := Fence.wide.inRound b) hb ?_
  intro ex2 a2 w2 hq2;cases ex2 with
  | normal =>
   obtain ⟨e2, S2, hc2, e3, S3, κ, k0, k1, k2, k3⟩ := hq2;obtain ⟨_, _, g3, m1, m2, m3⟩ := k0 es.length w g a2 w2 hw.nid hc2;obtain ⟨tm3, n1, _, _, n4⟩ := Ov m1 k1;obtain ⟨n5, n6⟩ := n4 .ready;refine ⟨_, _, run_endRound none n1, .bool true, g3.sub κ, rfl, n5.sub k2, .bo _ _, ?_⟩
   exact (m3.toEvo.trans n6).sub k2.nodup (k2.lt n5) (by rw [hw.nid]; exact k3)
  | exit i => obtain ⟨_, _, _, q⟩ := hq2; exact q.elim
  | ret => obtain ⟨_, _, _, q⟩ := hq2; exact q.elim
  | _ => exact hq2.elim
 | exit i => obtain ⟨_, _, _, q⟩ := hq; exact q.elim
 | ret => obtain ⟨_, _, _, q⟩ := hq; exact q.elim
 | _ => exact hq.elim
end
end Pe
end
section
namespace Pe
open Tryz
open Go Go.RowKit
variable [Tab] {P : Program}
theorem EF.enter4 {b D : Nat} {fn : FuncId} {es args : List AV} {ps : Array Tmp} {asn bdy : Code} {S S' : Ae} (pf rf : List FuncId) (sp : List (Nat × (List Nat × List Nat × List Nat))) (ord : List (Nat × List Nat)) (l : Nat) (hl : S[l]? = some (.loop b D fn es ps asn bdy .ready)) (hlen : args.length = ps.size) (hps : ∀ p ∈ ps.toList, p < es.length)
  (hm : P.follows .mixedOrders = true) (hoa : DV P pf rf es.length asn = true) (hob : C9 P pf rf es.length sp ord bdy = true) (hra : DS asn = true)
  (h : AW P pf rf S.length (C7 asn) (Wi l (.loop b D fn es ps asn bdy) (BD P pf rf S.length (BK sp ord bdy) (Wd S.length l (.loop b D fn es ps asn bdy) S'))) (GN (Ci es) ps.toList args) S) : EF P b args S (.bo true) S' :=
 EF.of_wp pf rf l hl hlen hps hm hoa hra _ (fun w0 g0 e T a w hn hc hb => W9 hm hn _ _ _ _ _ _ hob hc hb) h
theorem Ay.reserveN [Tab] (N0 : Nat) {e : Af} {S : Ae} (l i : Nat) {cs es : List AV} (hS : S[l]? = some (.cells cs)) (hi : cs[i]? = some (.sl .full es)) (ty : TypeId) (sz : Nat) : Ay N0 e S e (S.set l (.cells (cs.set i (.sl (.own S.length) es))) ++ [.buf es.length ty sz]) := by
 rintro N w0 g0 a w hn ⟨h1, h2, g, h3, h4, h5⟩
 obtain ⟨g', h6, h7, h8, h9, h10⟩ := h3.reserve es.length ty sz;have hlS := (List.getElem?_eq_some_iff.1 hS).1
 have hic := (List.getElem?_eq_some_iff.1 hi).1
 have hn3 := h3.nid;have hn6 := h6.nid;rw [List.length_append, List.length_singleton] at hn6;refine ⟨h1, h2, g', ⟨by rw [List.length_append, List.length_set, List.length_singleton]; exact hn6, fun k o hk => ?_, h6.disj, h6.lt, h6.tab⟩, fun t => (h4 t).le h7.toLe, h5.trans h7⟩
 by_cases hkl : k = l
 ·subst hkl
  rw [List.getElem?_append_left (by rw [List.length_set]; exact hlS), List.getElem?_set_self hlS] at hk
  cases hk
  obtain ⟨k1, k2, k3, arr, T, fr, k4, k5, k6, k7, k8⟩ := h6.obj k (.cells cs) (Dy hS _);refine ⟨k1, k2, k3, arr, T, fr, k4, k5, by rw [List.length_set]; exact k6, k7, fun j u v hu hv => ?_⟩
  by_cases hj : j = i
  ·subst hj
   rw [List.getElem?_set_self hic] at hu
   cases hu
   refine (k8 j _ v hi hv).own_full (by omega) ?_ ?_
   ·rw [← hn3]; exact h9
   ·rw [← hn3]; exact h10
  ·rw [List.getElem?_set_ne (Ne.symm hj)] at hu
   exact k8 j u v hu hv
 ·refine h6.obj k o ?_
  by_cases hkS : k < S.length
  ·rw [List.getElem?_append_left (by rw [List.length_set]; exact hkS), List.getElem?_set_ne (Ne.symm hkl)] at hk
   rw [List.getElem?_append_left hkS]
   exact hk
  ·rw [List.getElem?_append_right (by rw [List.length_set]; omega), List.length_set] at hk
   rw [List.getElem?_append_right (by omega)]
   exact hk
def Keep (E e : Af) : Prop := ∀ t, E t = e t ∨ E t = .junk
theorem Keep.nil (e : Af) : Keep (fun _ => .junk) e := fun _ => .inr rfl
theorem Keep.cons {E e : Af} (h : Keep E e) (t : Nat) (v : AV) (hv : e t = v) : Keep (upd E t v) e := fun u => by
 unfold upd;by_cases hu : u = t
 ·rw [if_pos hu, hu]; exact .inl hv.symm
 ·rw [if_neg hu]; exact h u
theorem Ay.keep (N0 : Nat) {E e : Af} {S : Ae} (h : Keep E e) : Ay N0 e S E S := by
 rintro N w0 g0 a w hn ⟨h1, h2, g, h3, h4, h5⟩
 refine ⟨h1, h2, g, h3, fun t => ?_, h5⟩
 rcases h t with e1 | e1 <;> rw [e1]
 ·exact h4 t
 ·exact .junk _ _
theorem Ay.trans2 {N0 : Nat} {e e1 e2 : Af} {S S1 S2 : Ae} (h : Ay N0 e S e1 S1) (h' : Ay N0 e1 S1 e2 S2) : Ay N0 e S e2 S2 := fun N w0 g0 a w hn hc => h' N w0 g0 a w hn (h N w0 g0 a w hn hc)
theorem ZfP {N : Nat} {g : Operand} {ps : Array Tmp} {asn bdy : Code} {K : Af → Ae → Prop} {e : Af} {S : Ae} {f : FuncId} {fa ca : List AV} (hg : ev e g = .fn (.func f) fa ca) (v : AV) (S' U : Ae) (hl : S'.length = S.length)
  (hac : ∀ b D fn, AC P f (fa ++ [.fn (.yield b) [] []] ++ ca) (S ++ [.loop b D fn (Cz N e) ps asn bdy .ready]) v (S' ++ .loop b D fn (Cz N e) ps asn bdy .ready :: U)) (hK : K e (S' ++ .dead :: U)) : K6 P N g ps asn bdy K e S := by
 unfold K6;rw [hg];exact ⟨v, S', U, hl, hac, hK⟩
end Pe
end
section
namespace Pe
open Tryz
open Go Go.RowKit Co Dm Wl
set_option maxRecDepth 100000
set_option maxHeartbeats 4000000
theorem Zei (l : By) (h : l.length ≤ 9223372036854775807) : AC prog 192 [.st l] [] (.it .u32 ((Sm.crc l).toNat : Int)) [] := by
 refine AC.ofBelow (by kernel_rfl) fun w g cargs ht hargs => ?_
 rw [Jh hargs];refine (Zej ⟨l.toArray⟩ w (by simp [ByteArray.size]; omega)).mono ?_
 rintro r w' ⟨rfl, rfl⟩
 refine ⟨_, rfl, fun g' => ?_, Below.refl _ _⟩
 exact .it g' _ _
theorem H6 (n k : Nat) (hk : k < 32) : Dd .u32 (n : Int) (k : Int) = some (.it .u32 ((n / 2 ^ k : Nat) : Int)) := by
 unfold Dd;rw [if_pos (by omega)]
 simp only [Int.toNat_natCast, show IntKind.u32.bits = 32 from rfl, Nat.min_eq_left (Nat.le_of_lt hk)]
 congr 2
 rw [Int.fdiv_eq_ediv_of_nonneg _ (by exact_mod_cast Nat.zero_le _)]
 norm_cast
theorem Gy (n : Nat) : IntKind.u8.wrap (n : Int) = ((UInt8.ofNat (n % 256)).toNat : Int) := by
 rw [Kg (by omega)]
 unfold IntKind.wrap;simp [IntKind.bits, IntKind.signed]
theorem Vs (s : By) (h : s.length ≤ 9223372036854775807) : AC prog 131 [.st s] [] (.st (ck s)) [] := by
 have e0 := Gy (Sm.crc s).toNat;have e1 := Gy ((Sm.crc s).toNat / 256);have e2 := Gy ((Sm.crc s).toNat / 65536);have e3 := Gy ((Sm.crc s).toNat / 16777216);have g1 : Dd .u32 ((Sm.crc s).toNat : Int) 8 = _ := H6 _ 8 (by omega)
 have g2 : Dd .u32 ((Sm.crc s).toNat : Int) 16 = _ := H6 _ 16 (by omega)
 have g3 : Dd .u32 ((Sm.crc s).toNat : Int) 24 = _ := H6 _ 24 (by omega)
 simp only [Nat.reducePow] at g1 g2 g3;have hk : ck s = [UInt8.ofNat ((Sm.crc s).toNat % 256), UInt8.ofNat ((Sm.crc s).toNat / 256 % 256), UInt8.ofNat ((Sm.crc s).toNat / 65536 % 256), UInt8.ofNat ((Sm.crc s).toNat / 16777216 % 256)] := rfl;rw [hk];have hc := Zei s h;clear hk;generalize (Sm.crc s).toNat = n at *;generalize UInt8.ofNat (n % 256) = b0 at *;generalize UInt8.ofNat (n / 256 % 256) = b1 at *;generalize UInt8.ofNat (n / 65536 % 256) = b2 at *;generalize UInt8.ofNat (n / 16777216 % 256) = b3 at *;refine Ai [192] [] func131 ?_;refine run ?_;refine cp hc ?_;have hb : bytesOf [AV.it .u8 (b0.toNat : Int), .it .u8 (b1.toNat : Int), .it .u8 (b2.toNat : Int), .it .u8 (b3.toNat : Int)] = some [b0, b1, b2, b3] := JA [b0, b1, b2, b3];refine Aa (A8 @e0 @e1 @e2 @e3 @g1 @g2 @g3 @hb) ?_;exact Ab
theorem ZaP (s : By) (h : s.length ≤ 140737488355328) : AC prog 100 [.st s] [] (.st (AK s)) [] := by
 refine Ai [68, 131] [] func100 ?_;have hl := Ak (s.length : Int) (by omega)
 refine run ?_;refine cp (Cf s.length (by omega) (by omega)) ?_
 rw [E9] at *;refine run ?_;refine cp (Vs s (by omega)) ?_
 have hc := G4 s;refine run ?_;exact Ab
theorem ZaN (s : By) : AC prog 70 [.st s] [] (.fn (.func 130) [] [.ptr 0 0]) [.cells [.st s]] := by
 refine Ai [] [] func70 ?_;refine run ?_;exact Aq [0] (by rfl) (EI 0 (by rfl) (by rfl)) (by rfl) (by rfl) (by rfl)
end Pe
end
section
namespace Pe
open Tryz
open Go Go.RowKit Co Dm Wl
set_option maxRecDepth 100000
set_option maxHeartbeats 4000000
theorem YS {n : Nat} {ρ : Nat → Nat} {o : SObj} (h : o.ok n = true) (hρ : ∀ i, i < n → ρ i = i) : o.ren ρ = o := by
 cases o with
 | cells cs =>
  have : cs.map (AV.r1 ρ) = cs := Ew (p := AV.o1 n) h fun v hv => by
   have := Cn (ρ := ρ) (v := .agg [v]) (n := n) (by simpa [AV.ok, AV.o2] using hv) hρ
   simpa [AV.ren, AV.r2] using this
  show SObj.cells _ = _
  rw [this]
 | row cs e sz =>
  have : cs.map (AV.r1 ρ) = cs := Ew (p := AV.o1 n) h fun v hv => by
   have := Cn (ρ := ρ) (v := .agg [v]) (n := n) (by simpa [AV.ok, AV.o2] using hv) hρ
   simpa [AV.ren, AV.r2] using this
  show SObj.row _ _ _ = _
  rw [this]
 | map es =>
  have h := List.all_eq_true.1 h;show SObj.map _ = SObj.map es
  congr 1
  rw [List.map_congr_left (g := id) fun p hp => ?_, List.map_id]
  have := h p hp;simp only [Bool.and_eq_true] at this;have h1 := Cn (ρ := ρ) (v := .agg [p.1]) (n := n) (by simpa [AV.ok, AV.o2] using this.1) hρ
  have h2 := Cn (ρ := ρ) (v := .tup [p.2]) (n := n) (by simpa [AV.ok] using this.2) hρ
  have h1 : p.1.r1 ρ = p.1 := by simpa [AV.ren, AV.r2] using h1
  have h2 : p.2.r2 ρ = p.2 := by
   have h2 : AV.tup [p.2.r2 ρ] = AV.tup [p.2] := h2;simp only [AV.tup.injEq, List.cons.injEq, and_true] at h2;exact h2
  rw [h1, h2]; rfl
 | loop b D fn es ps asn bdy st =>
  have : es.map (AV.ren ρ) = es := Ew (p := AV.ok n) h fun v hv => Cn hv hρ
  show SObj.loop _ _ _ _ _ _ _ _ = _
  rw [this]
 | _ => rfl
theorem TE {n i : Nat} (h : i < n) : At (List.range n) i = i := by
 unfold At;rw [List.getD_eq_getElem?_getD, List.getElem?_range h]
 rfl
theorem HZ {S T : Ae} (n : Nat) (hn : S.length = n) (h : S.all (SObj.ok n) = true) : SubOk (List.range n) (S ++ T) S := by
 refine ⟨List.nodup_range, by simpa using hn, fun i o hi => ?_⟩
 have hlt := (List.getElem?_eq_some_iff.1 hi).1
 have ho := List.all_eq_true.1 h o (List.mem_of_getElem? hi);rw [List.length_range];refine ⟨ho, ?_⟩
 rw [YS ho (fun j hj => TE hj), TE (by omega), List.getElem?_append_left hlt]
 exact hi
theorem ZbY {t : By} (h : t ≠ []) : 0 < t.length := List.length_pos_iff.2 h
theorem Zct (data : By) (hd : data.length ≤ 16777216) (b : Nat) (o0 o2 o6 : SObj) (o1 o5 : List By → SObj) (o3 : Int → SObj)
  (hok : ∀ rows v, ([o0, o1 rows, o2, o3 v, .cells [.st data], o5 rows, o6] : Ae).all (SObj.ok 7) = true)
  (hY : ∀ (rows : List By) (v en : Int) (s : By) (x : R), rows.length ≤ 16777216 → s.length ≤ 1048576 → EF prog b [.st s, .it .i64 en] [o0, o1 rows, o2, o3 v, .cells [.st data], o5 rows, o6, rd x] (.bo true) [o0, o1 (rows ++ [s]), o2, o3 en, .cells [.st data], o5 (rows ++ [s]), o6, rd x]) :
  AC prog 130 [.fn (.yield b) [] [], .ptr 4 0] [o0, o1 [], o2, o3 0, .cells [.st data], o5 [], o6] (.tup []) [o0, o1 (AD data), o2, o3 ((Ar (AD data)).length : Int), .cells [.st data], o5 (AD data), o6] := by
 refine As [131] [79] func130 ?_;refine run ?_;refine Au (AC.newAt (Mm data) _) ?_;refine run ?_;have fin : ∀ (x : R) (rows : List By) (v : Int) (e : Af), rows = AD data → v = ((Ar rows).length : Int) →
   Fin prog f130.results.toList 7 (.tup []) [o0, o1 (AD data), o2, o3 ((Ar (AD data)).length : Int), .cells [.st data], o5 (AD data), o6] e [o0, o1 rows, o2, o3 v, .cells [.st data], o5 rows, o6, rd x] := by
  intro x rows v e h1 h2;subst h2; subst h1;have := Aq (P := prog) (rs := f130.results.toList) (v := .tup []) (e := e) (N0 := 7) (vs := []) (List.range 7) (by rfl) (HZ (S := [o0, o1 (AD data), o2, o3 ((Ar (AD data)).length : Int), .cells [.st data], o5 (AD data), o6]) (T := [rd x]) 7 rfl (hok _ _)) (by rfl) (by rfl) (by rfl)
  exact this
 refine Bp (fun m e S => e 0 = .fn (.yield b) [] [] ∧ e 1 = .ptr 4 0 ∧ e 3 = .ptr 7 0 ∧ ∃ (rows : List By) (t : By), S = [o0, o1 rows, o2, o3 ((Ar rows).length : Int), .cells [.st data], o5 rows, o6, rd ⟨t, false⟩] ∧ data = Ar rows ++ t ∧ DO rows ∧ rows.length ≤ (Ar rows).length ∧ m = t.length) data.length ⟨Ad, Ad, Ad, [], data, rfl, rfl, (fun s hs => by cases hs), Nat.le_refl _, rfl⟩ ?_
 rintro m e S ⟨s0, s1, s3, rows, t, rfl, hdt, hokr, hrl, rfl⟩
 have hlen : data.length = (Ar rows).length + t.length := by rw [← List.length_append, ← hdt]
 have hstuck : Wl.stuck t → rows = AD data := fun h => by rw [hdt]; exact (N1 hokr h).1.symm
 refine Aa (A3 @s0 @s1 @s3) ?_;refine Px 7 (Ku ⟨t, false⟩) ?_
 by_cases ht : t = []
 ·have hr := hstuck (by rw [ht]; exact NI)
  have ht0 : ¬ (0 < (t.length : Int)) := by rw [ht]; decide
  refine Aa (A4 @s0 @s1 @s3 @ht0) ?_;exact fin _ _ _ _ hr rfl
 have ht0 : 0 < (t.length : Int) := by have := ZbY ht; omega
 have hst : Wl.step ⟨t, false⟩ = (if ((R.num ⟨t, false⟩).2.take 4).1.length ≠ 4 ∨ 1048576 < (R.num ⟨t, false⟩).1 then none else
  if (((R.num ⟨t, false⟩).2.take 4).2.take (R.num ⟨t, false⟩).1).1.length ≠ (R.num ⟨t, false⟩).1 ∨ ck (((R.num ⟨t, false⟩).2.take 4).2.take (R.num ⟨t, false⟩).1).1 ≠ ((R.num ⟨t, false⟩).2.take 4).1 then none else
  some (((R.num ⟨t, false⟩).2.take 4).2.take (R.num ⟨t, false⟩).1)) := rfl
 have hinv := fun (s : By) (x : R) => step_inv (b := t) (s := s) (x := x)
 have k1 := J5 ⟨t, false⟩ (by show t.length < _; omega)
 have l1 := Cq ⟨t, false⟩;have l0 := F8 ⟨t, false⟩;refine Aa (A4 @s0 @s1 @s3 @ht0) ?_;unfold Wl.stuck at hstuck;generalize (R.num ⟨t, false⟩).1 = n at *;generalize (R.num ⟨t, false⟩).2 = x1 at *;refine c1 7 k1 ?_;refine Aa (A4 @s0 @s1 @s3 @ht0) ?_;have l1 : x1.rest.length ≤ t.length := l1;have k2 := JR x1 4 (by omega) (by omega)
 have l2 := JQ x1 4;generalize (x1.take 4).1 = c at *;generalize (x1.take 4).2 = x2 at *;refine c1 7 k2 ?_;by_cases h4 : c.length = 4
 rotate_left
 ·rw [if_pos (.inl h4)] at hst
  have hr := hstuck hst;refine Aa (A3 @s0 @s1 @s3) ?_;exact fin _ _ _ _ hr rfl
 by_cases hn : 1048576 < n
 ·rw [if_pos (.inr hn)] at hst
  have hr := hstuck hst;refine Aa (A3 @s0 @s1 @s3) ?_;exact fin _ _ _ _ hr rfl
 rw [if_neg (by omega)] at hst
 refine Aa (A3 @s0 @s1 @s3) ?_;have k3 := JR x2 n (by omega) (by omega)
 have l3 := JQ x2 n;have e3 : x2.take n = ((x2.take n).1, (x2.take n).2) := rfl;rw [e3] at hst;generalize (x2.take n).1 = s at *;generalize (x2.take n).2 = x3 at *;clear e3;refine c1 7 k3 ?_;by_cases h5 : s.length = n
 rotate_left
 ·rw [if_pos (.inl h5)] at hst
  have hr := hstuck hst;have h6 : ¬ ((s.length : Int) = (n : Int)) := by omega
  refine Aa (A4 @s0 @s1 @s3 @h6) ?_;exact fin _ _ _ _ hr rfl
 have h6 : (s.length : Int) = (n : Int) := by omega
 refine Aa (A4 @s0 @s1 @s3 @h6) ?_;refine cp (Vs s (by omega)) ?_
 by_cases h7 : ck s = c
 rotate_left
 ·rw [if_pos (.inr h7)] at hst
  have hr := hstuck hst;have e7 : (ck s == c) = false := by simpa using h7
  refine Aa (A4 @s0 @s1 @s3 @e7) ?_;exact fin _ _ _ _ hr rfl
 have e7 : (ck s == c) = true := by simpa using h7
 rw [if_neg (by simp [h5, h7])] at hst
 obtain ⟨i1, i2, i3⟩ := step_inv hst;obtain ⟨t', bad⟩ := x3;simp only at i1 i3
 subst i3;refine Aa (A4 @s0 @s1 @s3 @e7) ?_;refine Px 7 (Ku ⟨t', false⟩) ?_
 have hrec : data = Ar (rows ++ [s]) ++ t' := by rw [J8, List.append_assoc, ← i1]; exact hdt
 have hpos := J9 s;have hl1 : (Ar (rows ++ [s])).length = (Ar rows).length + (AK s).length := by rw [J8, List.length_append]
 have hl2 : t.length = (AK s).length + t'.length := by rw [i1, List.length_append]
 have hen : (data.length : Int) - (t'.length : Int) = ((Ar (rows ++ [s])).length : Int) := by omega
 have hyy := hY rows ((Ar rows).length : Int) ((Ar (rows ++ [s])).length : Int) s ⟨t', false⟩ (by omega) i2
 have hrl2 : (rows ++ [s]).length ≤ (Ar (rows ++ [s])).length := by rw [List.length_append]; simp only [List.length_cons, List.length_nil]; omega
 have hok2 : DO (rows ++ [s]) := Oj hokr (fun x hx => by rw [List.mem_singleton.1 hx]; exact i2)
 clear hY hst hinv hstuck i1 hdt;generalize hm1 : (Ar (rows ++ [s])).length = m1 at *;refine Aa (A4 @s0 @s1 @s3 @hen) ?_;refine ZeM _ _ (show Ni _ _ _ _ _ _ _ _ _ from ⟨⟨rfl, rfl⟩, hyy⟩) ?_
 refine Aa (A3 @s0 @s1 @s3) ?_;exact AG t'.length (by omega) ⟨Ad, Ad, Ad, rows ++ [s], t', by rw [hm1], hrec, hok2, by omega, rfl⟩
end Pe
end
section
namespace Pe
open Tryz
open Go Go.RowKit Co Dm Wl
set_option maxRecDepth 100000
set_option maxHeartbeats 4000000
theorem NG {S1 S : Ae} (n : Nat) (h : S1 = S) (hn : S.length = n) (hk : S.all (SObj.ok n) = true) : SubOk (List.range n) S1 S := by
 subst h;have := HZ (T := []) n hn hk;rwa [List.append_nil] at this
abbrev LG (d : Dk) (f : Int) (rows : List By) : Ae := [XD d, .cells [.ptr 0 0, .it .i64 f, .sl (.own 2) (rows.map .st)], .buf rows.length 9 1]
theorem Zex (d : Dk) (f : Int) (rows : List By) (hf : 0 ≤ f ∧ f ≤ 6) : AC prog 72 [.ptr 1 0] (LG d f rows) (.it .i64 (BG d f).1) (LG (BG d f).2 f rows) := by
 refine As [] [133] func72 ?_;have hcl : BG d f = (if size d (f + 1) = 0 then (0, d) else cutD d (f + 1) 0) := rfl
 refine run ?_;refine Px 0 (Zea d (f + 1)) ?_
 by_cases hz : size d (f + 1) = 0
 ·rw [if_pos hz] at hcl
  rw [hcl];have e1 : ((size d (f + 1) : Int) == 0) = true := by rw [hz]; rfl
  refine Aa @e1 ?_;exact Aq (List.range 3) (by rfl) (HZ (S := LG d f rows) (T := []) 3 rfl (by rfl)) (by rfl) (by rfl) (by rfl)
 ·rw [if_neg hz] at hcl
  rw [hcl];have e1 : ((size d (f + 1) : Int) == 0) = false := by simp; omega
  refine Aa @e1 ?_;refine c1 0 (U5 d (f + 1) 0) ?_;refine run ?_;exact Aq (List.range 3) (by rfl) (HZ (S := LG (cutD d (f + 1) 0).2 f rows) (T := []) 3 rfl (by rfl)) (by rfl) (by rfl) (by rfl)
theorem ZaO (s : By) (T : Ae) : AC prog 70 [.st s] T (.fn (.func 130) [] [.ptr T.length 0]) (T ++ [.cells [.st s]]) := by
 have := AC.fresh1 (ZaN s) rfl (by rfl) (by rfl) T
 simpa [AV.ren, AV.r2, AV.r1, AV.r0, SObj.ren] using this
abbrev LO (d : Dk) (f : Int) (rows : List By) (o2 o3 o4 o6 : SObj) : Ae := [XD d, .cells [.ptr 0 0, .it .i64 f, .sl (.own 5) (rows.map .st)], o2, o3, o4, .buf rows.length 9 1, o6]
theorem Ow (d : Dk) (f : Int) (rows : List By) (o2 o3 o4 o6 : SObj) : SubOk [0, 1, 5] (LO d f rows o2 o3 o4 o6) (LG d f rows) := ⟨by decide, rfl, fun i o hi => by
 match i, hi with
 | 0, hi => cases hi; exact ⟨rfl, rfl⟩
 | 1, hi => cases hi; exact ⟨rfl, rfl⟩
 | 2, hi => cases hi; exact ⟨rfl, rfl⟩⟩
theorem Vq (d : Dk) (f : Int) (rows : List By) (hf : 0 ≤ f ∧ f ≤ 6) (o2 o3 o4 o6 : SObj) : AC prog 72 [.ptr 1 0] (LO d f rows o2 o3 o4 o6) (.it .i64 (BG d f).1) (LO (BG d f).2 f rows o2 o3 o4 o6) :=
 (Zex d f rows hf).frame (T := LO d f rows o2 o3 o4 o6) [0, 1, 5] (Ow ..) rfl rfl (fun i o hi => by
  match i, hi with
  | 0, hi => cases hi; rfl
  | 1, hi => cases hi; rfl
  | 2, hi => cases hi; rfl)
theorem Qi (d : Dk) (f : Int) (hf : 0 ≤ f ∧ f ≤ 6) (hb : (peek d f).1.length ≤ 16777216) (v : AV) (S' : Ae)
  (h0 : (AU d f).1 = 0 → v = .tup [.ptr 1 0, .it .i64 0] ∧ S' = LG (AU d f).2 f (AD (peek d f).1))
  (h1 : (AU d f).1 ≠ 0 → v = .tup [.ot (.pointer none), .it .i64 (AU d f).1] ∧ S' = [XD (AU d f).2]) :
  AC prog 35 [.ptr 0 0, .it .i64 f] [XD d] v S' := by
 refine AC.enterN 76 [] [] func35 rfl (by decide) (by decide) (Nat.le_of_ble_eq_true rfl) (by kernel_rfl) rfl ?_; refine PW ?_
 have hod : AU d f = (if (peek d f).2 ≠ 0 then ((peek d f).2, d) else
  if (Bw d f).1 ≠ 0 then Bw d f else
  if (BG (Bw d f).2 f).1 ≠ 0 then BG (Bw d f).2 f else
  flushD (BG (Bw d f).2 f).2 f) := rfl
 have htr : Bw d f = (if (Ar (AD (peek d f).1)).length < (peek d f).1.length then cutD d f ((Ar (AD (peek d f).1)).length : Int) else (0, d)) := rfl
 have hn1 : ¬ f < 0 := by omega
 have hn2 : ¬ 6 < f := by omega
 have kr := Zeb d f;generalize (peek d f).1 = b at *;generalize (peek d f).2 = en at *;refine Aa (an @hn1 @hn2) ?_;refine c1 0 kr ?_;by_cases hen : en = 0
 rotate_left
 ·rw [if_pos hen] at hod
  rw [hod] at h0 h1;obtain ⟨rfl, rfl⟩ := h1 hen;have e1 : (en != 0) = true := by simpa using hen
  refine Aa @e1 ?_;exact Aq (List.range 1) (by rfl) (HZ (S := [XD d]) (T := []) 1 rfl (by rfl)) (by rfl) (by rfl) (by rfl)
 rw [if_neg (by simpa using hen)] at hod
 subst hen;refine run ?_;refine Au (ZaO b _) ?_;refine run ?_;refine ⟨_, _, (Ay.keep 1 ((((((Keep.nil _).cons 0 (.ptr 0 0) Ad).cons 1 (.it .i64 f) Ad).cons 6 (.st b) Ad).cons 8 (.ptr 2 0) Ad).cons 9 (.ptr 3 0) Ad |>.cons 39 (.fn (.func 130) [] [.ptr 4 0]) Ad)).trans2 (Ay.reserveN 1 1 2 (es := []) (by rfl) (by rfl) 9 1), ?_⟩
 have hEok : (Cz 76 (upd (upd (upd (upd (upd (upd (fun _ => .junk) 0 (.ptr 0 0)) 1 (.it .i64 f)) 6 (.st b)) 8 (.ptr 2 0)) 9 (.ptr 3 0)) 39 (.fn (.func 130) [] [.ptr 4 0]))).all (AV.ok 7) = true := by rfl
 have hEok8 : (Cz 76 (upd (upd (upd (upd (upd (upd (fun _ => .junk) 0 (.ptr 0 0)) 1 (.it .i64 f)) 6 (.st b)) 8 (.ptr 2 0)) 9 (.ptr 3 0)) 39 (.fn (.func 130) [] [.ptr 4 0]))).all (AV.ok 8) = true := by rfl
 have s0 : upd (upd (upd (upd (upd (upd (fun _ => .junk) 0 (.ptr 0 0)) 1 (.it .i64 f)) 6 (.st b)) 8 (.ptr 2 0)) 9 (.ptr 3 0)) 39 (.fn (.func 130) [] [.ptr 4 0]) 0 = .ptr 0 0 := rfl
 have s1 : upd (upd (upd (upd (upd (upd (fun _ => .junk) 0 (.ptr 0 0)) 1 (.it .i64 f)) 6 (.st b)) 8 (.ptr 2 0)) 9 (.ptr 3 0)) 39 (.fn (.func 130) [] [.ptr 4 0]) 1 = .it .i64 f := rfl
 have s6 : upd (upd (upd (upd (upd (upd (fun _ => .junk) 0 (.ptr 0 0)) 1 (.it .i64 f)) 6 (.st b)) 8 (.ptr 2 0)) 9 (.ptr 3 0)) 39 (.fn (.func 130) [] [.ptr 4 0]) 6 = .st b := rfl
 have s8 : upd (upd (upd (upd (upd (upd (fun _ => .junk) 0 (.ptr 0 0)) 1 (.it .i64 f)) 6 (.st b)) 8 (.ptr 2 0)) 9 (.ptr 3 0)) 39 (.fn (.func 130) [] [.ptr 4 0]) 8 = .ptr 2 0 := rfl
 have s9 : upd (upd (upd (upd (upd (upd (fun _ => .junk) 0 (.ptr 0 0)) 1 (.it .i64 f)) 6 (.st b)) 8 (.ptr 2 0)) 9 (.ptr 3 0)) 39 (.fn (.func 130) [] [.ptr 4 0]) 9 = .ptr 3 0 := rfl
 have s39 : upd (upd (upd (upd (upd (upd (fun _ => .junk) 0 (.ptr 0 0)) 1 (.it .i64 f)) 6 (.st b)) 8 (.ptr 2 0)) 9 (.ptr 3 0)) 39 (.fn (.func 130) [] [.ptr 4 0]) 39 = .fn (.func 130) [] [.ptr 4 0] := rfl
 generalize (upd (upd (upd (upd (upd (upd (fun _ => .junk) 0 (.ptr 0 0)) 1 (.it .i64 f)) 6 (.st b)) 8 (.ptr 2 0)) 9 (.ptr 3 0)) 39 (.fn (.func 130) [] [.ptr 4 0])) = E at *
 refine ZfP (show ev E (.tmp 39) = _ from s39) (.tup []) [XD d, .cells [.ptr 0 0, .it .i64 f, .sl (.own 5) ((AD b).map .st)], .cells [.ptr 1 0], .cells [.it .i64 ((Ar (AD b)).length : Int)], .cells [.st b], .buf (AD b).length 9 1] [] rfl ?_ ?_
 ·intro bk D fn
  refine Zct b hb bk (XD d) (.cells [.ptr 1 0]) (.loop bk D fn (Cz 76 E) _ _ _ .ready) (fun rows => .cells [.ptr 0 0, .it .i64 f, .sl (.own 5) (rows.map .st)]) (fun rows => .buf rows.length 9 1) (fun v => .cells [.it .i64 v]) (fun rows v => ?_) ?_
  ·show (true && (true && (true && (true && (true && (true && ((Cz 76 E).all (AV.ok 7) && true))))))) = true
   rw [hEok];rfl
  intro rows v en s x hr hs;have f1 : (rows ++ [s]).map AV.st = rows.map .st ++ [.st s] := List.map_append ..;have f2 : (rows ++ [s]).length = rows.length + 1 := by simp
  simp only [f1, f2];refine EF.enter4 (es := Cz 76 E) [] [] [(11, ([2], [42, 43], []))] [] 6 rfl rfl (by intro p hp; simp at hp; rcases hp with rfl | rfl <;> simp [Cz]) rfl (by kernel_rfl) (by kernel_rfl) rfl ?_
  have a8 : Ci (Cz 76 E) 8 = .ptr 2 0 := (Wj E (by omega)).trans s8
  have a9 : Ci (Cz 76 E) 9 = .ptr 3 0 := (Wj E (by omega)).trans s9
  simp only [C7, B4, DB, List.map_cons, List.map_nil, List.map_toArray, List.getElem?_toArray, List.getElem?_cons_zero, List.getElem?_cons_succ, Option.bind_some, Option.bind_none, List.append_eq, List.cons_append, List.nil_append, Zbp, Sb]
  refine run ?_;refine ⟨rfl, ?_⟩
  simp only [C7, B4, DB, List.map_cons, List.map_nil, List.map_toArray, List.getElem?_toArray, List.getElem?_cons_zero, List.getElem?_cons_succ, Option.bind_some, Option.bind_none, List.append_eq, List.cons_append, List.nil_append, BK, DD, BT, Ml, List.isEmpty_nil, List.isEmpty_cons, Bool.and_true, Bool.and_false, Bool.and_self, Bool.false_and, Bool.true_and, List.lookup, Nat.reduceBEq, beq_self_eq_true, Option.isSome_some, Option.isSome_none, Bool.or_true, Bool.true_or, Bool.or_false, Bool.not_true, Bool.not_false, Bool.false_eq_true, if_true, if_false, ↓reduceIte, List.size_toArray, List.length_cons, List.length_nil, List.range_succ_eq_map, List.range_zero, Nat.reduceAdd, List.filterMap_cons, List.filterMap_nil]
  have hsz : AE 1 [AV.st s] = true := rfl;have hft : CX (rows.length + 1) 16 = true := by apply FM <;> omega
  have hlen : (rows.map AV.st).length = rows.length := List.length_map _;refine runf4 (an @a8 @a9) ?_
  refine ⟨_, _, Ay.keep 8 ((((Keep.nil _).cons 8 (.ptr 2 0) Ad).cons 9 (.ptr 3 0) Ad).cons 10 (.st s) Ad |>.cons 11 (.it .i64 en) Ad), ?_⟩
  refine run4 ?_
  repeat (first | refine k4 ?_ | refine ON ?_ | (refine PM ?_; refine runf4 (A3 @hsz @hft @hlen) ?_) | (refine a4 ?_; refine runf4 (A3 @hsz @hft @hlen) ?_)); try refine runf4 (A3 @hsz @hft @hlen) ?_
  refine ⟨_, _, List.range 8, Ay.refl _ _ _, rfl, NG 8 rfl rfl ?_, rfl⟩
  show (true && (true && (true && (true && (true && (true && ((Cz 76 E).all (AV.ok 8) && (true && true)))))))) = true
  rw [hEok8];rfl
 ·clear hEok hEok8 s39
  generalize hrw : AD b = rows at *;have one : ∀ (d' : Dk) (o2 o3 o4 o6 : SObj), SubOk [0] (LO d' f rows o2 o3 o4 o6) [XD d'] := fun d' o2 o3 o4 o6 => EI 0 rfl rfl
  by_cases hlt : (Ar rows).length < b.length
  ·rw [if_pos hlt] at htr
   have e1 : ((Ar rows).length : Int) < (b.length : Int) := by omega
   refine Aa (A6 @s0 @s1 @s6 @s8 @s9 @e1) ?_;refine c1 0 (U5 d f ((Ar rows).length : Int)) ?_;rw [← htr];clear htr;generalize Bw d f = q at *;obtain ⟨te, d1⟩ := q;simp only at hod
   by_cases hte : te = 0
   rotate_left
   ·rw [if_pos hte] at hod
    rw [hod] at h0 h1;obtain ⟨rfl, rfl⟩ := h1 hte;have e3 : (te != 0) = true := by simpa using hte
    refine Aa (A6 @s0 @s1 @s6 @s8 @s9 @e3) ?_;exact Aq [0] (by rfl) (one _ _ _ _ _) (by rfl) (by rfl) (by rfl)
   subst hte;rw [if_neg (by simp)] at hod
   refine Aa (A5 @s0 @s1 @s6 @s8 @s9) ?_;have kc := Vq d1 f rows hf (.cells [.ptr 1 0]) (.cells [.it .i64 ((Ar rows).length : Int)]) (.cells [.st b]) .dead;refine Au kc ?_;generalize BG d1 f = q2 at *;obtain ⟨ce, d2⟩ := q2;simp only at hod
   by_cases hce : ce = 0
   rotate_left
   ·rw [if_pos hce] at hod
    rw [hod] at h0 h1;obtain ⟨rfl, rfl⟩ := h1 hce;have e3 : (ce != 0) = true := by simpa using hce
    refine Aa (A6 @s0 @s1 @s6 @s8 @s9 @e3) ?_;exact Aq [0] (by rfl) (one _ _ _ _ _) (by rfl) (by rfl) (by rfl)
   subst hce;rw [if_neg (by simp)] at hod
   refine Aa (A5 @s0 @s1 @s6 @s8 @s9) ?_;have kf := Po d2 f;refine c1 0 kf ?_;generalize flushD d2 f = q3 at *;obtain ⟨fe, d3⟩ := q3;rw [hod] at h0 h1;simp only at h0 h1
   by_cases hfe : fe = 0
   rotate_left
   ·obtain ⟨rfl, rfl⟩ := h1 hfe
    have e3 : (fe != 0) = true := by simpa using hfe
    refine Aa (A6 @s0 @s1 @s6 @s8 @s9 @e3) ?_;exact Aq [0] (by rfl) (one _ _ _ _ _) (by rfl) (by rfl) (by rfl)
   subst hfe;obtain ⟨rfl, rfl⟩ := h0 rfl;refine Aa (A5 @s0 @s1 @s6 @s8 @s9) ?_;exact Aq [0, 1, 5] (by rfl) (Ow ..) (by rfl) (by rfl) (by rfl)
  ·rw [if_neg hlt] at htr
   have e1 : ¬ ((Ar rows).length : Int) < (b.length : Int) := by omega
   refine Aa (A6 @s0 @s1 @s6 @s8 @s9 @e1) ?_;generalize Bw d f = q at *;subst htr;simp only at hod
   rw [if_neg (by simp)] at hod
   generalize d = d1 at *;have kc := Vq d1 f rows hf (.cells [.ptr 1 0]) (.cells [.it .i64 ((Ar rows).length : Int)]) (.cells [.st b]) .dead;refine Au kc ?_;generalize BG d1 f = q2 at *;obtain ⟨ce, d2⟩ := q2;simp only at hod
   by_cases hce : ce = 0
   rotate_left
   ·rw [if_pos hce] at hod
    rw [hod] at h0 h1;obtain ⟨rfl, rfl⟩ := h1 hce;have e3 : (ce != 0) = true := by simpa using hce
    refine Aa (A6 @s0 @s1 @s6 @s8 @s9 @e3) ?_;exact Aq [0] (by rfl) (one _ _ _ _ _) (by rfl) (by rfl) (by rfl)
   subst hce;rw [if_neg (by simp)] at hod
   refine Aa (A5 @s0 @s1 @s6 @s8 @s9) ?_;have kf := Po d2 f;refine c1 0 kf ?_;generalize flushD d2 f = q3 at *;obtain ⟨fe, d3⟩ := q3;rw [hod] at h0 h1;simp only at h0 h1
   by_cases hfe : fe = 0
   rotate_left
   ·obtain ⟨rfl, rfl⟩ := h1 hfe
    have e3 : (fe != 0) = true := by simpa using hfe
    refine Aa (A6 @s0 @s1 @s6 @s8 @s9 @e3) ?_;exact Aq [0] (by rfl) (one _ _ _ _ _) (by rfl) (by rfl) (by rfl)
   subst hfe;obtain ⟨rfl, rfl⟩ := h0 rfl;refine Aa (A5 @s0 @s1 @s6 @s8 @s9) ?_;exact Aq [0, 1, 5] (by rfl) (Ow ..) (by rfl) (by rfl) (by rfl)
end Pe
end
section
namespace Pe
open Tryz
open Go Go.RowKit
section
variable {P : Program} [Tab] {pf rf : List FuncId} {N0 : Nat} {Q : AX → Af → Ae → Prop} {e : Af} {S : Ae}
theorem YC (K K' : Af → Ae → Prop) : Ec (Ec Q K) K' = Ec Q K' := by funext x; cases x <;> rfl
theorem EG (a b c : CC) : AW P pf rf N0 (a.seq (b.seq c)) Q e S = AW P pf rf N0 ((a.seq b).seq c) Q e S := by
 rw [IQ, IQ, IQ, YC]; rfl
theorem Gu {a b : CC} (I : Af → Ae → Prop) (h1 : ∀ Kt : Af → Ae → Prop, (∀ e S, I e S → Kt e S) → AW P pf rf N0 a (Ec Q Kt) e S) (h2 : ∀ e S, I e S → AW P pf rf N0 b Q e S) : AW P pf rf N0 (a.seq b) Q e S := h1 _ h2
end
end Pe
end
section
namespace Pe
open Tryz
open Go Go.RowKit
variable [Tab]
def Gt (κ : List Nat) (E e : Af) : Prop := ∀ t, E t = .junk ∨ ((E t).ok κ.length = true ∧ e t = (E t).ren (At κ))
theorem Gt.nil (κ : List Nat) (e : Af) : Gt κ (fun _ => .junk) e := fun _ => .inl rfl
theorem Gt.cons {κ : List Nat} {E e : Af} (h : Gt κ E e) (t : Nat) (v u : AV) (hk : v.ok κ.length = true) (hu : v.ren (At κ) = u) (hv : e t = u) : Gt κ (upd E t v) e := fun x => by
 unfold upd;by_cases hx : x = t
 ·rw [if_pos hx, hx]; exact .inr ⟨hk, hv.trans hu.symm⟩
 ·rw [if_neg hx]; exact h x
theorem Ay.sub (N0 : Nat) {E e : Af} {S S' : Ae} (κ : List Nat) (hE : Gt κ E e) (hs : SubOk κ S S') (hκ : κ.take N0 = List.range N0) : Ay N0 e S E S' := by
 rintro N w0 g0 a w hn ⟨h1, h2, g, h3, h4, h5⟩
 refine ⟨h1, h2, g.sub κ, h3.sub hs, fun t => ?_, ⟨h5.toEvo.sub hs.nodup (hs.lt h3) (by rw [hn]; exact hκ), ?_, ?_⟩⟩
 ·rcases hE t with e1 | ⟨e1, e2⟩
  ·rw [e1]; exact .junk _ _
  ·have := h4 t
   rw [e2] at this;exact Rel.unren (FY w g κ) this e1
 ·intro d hd
  obtain ⟨b, k1, k2, k3, k4, k5⟩ := h5.defs d hd;exact ⟨b, k1, k2, k3, k4, fun l hl ho => k5 (At κ l) (hs.lt h3 l hl) ho⟩
 ·exact h5.nodup
end Pe
end
end Go.Proofs.YtldohjjoicmfpaaGreatDoor
