/- Several texts of this claim in one. -/
import Derived.Test.YtlefikdjhnaapaaGreatDoorKu6
set_option linter.unusedSectionVars false
set_option linter.unusedVariables false
set_option linter.unusedSimpArgs false
section
namespace Go.Proofs.YtlefikdjhnaapaaGreatDoor.Pe
open Go Go.RowKit
variable [Tab]
def Closed (md : Region.Mode) (ops : Array Oper) (listed : Array Bool) : Prop :=
 ∀ (j : Nat) oj, ops[j]? = some oj → listed.getD j true = true → ∀ e ∈ oj.after, Region.binds md e = true → listed.getD e.on true = true
theorem dep_un {md : Region.Mode} {ops : Array Oper} {k : Nat} {listed : Array Bool} (hc : Closed md ops listed) (hk : listed.getD k true = false) : ∀ n j, dep md ops k n j = true → listed.getD j true = false := by
 intro n
 induction n with
 | zero => intro j hj; unfold dep at hj; rw [beq_iff_eq.1 hj]; exact hk
 | succ n ih =>
  intro j hj
  unfold dep at hj
  rw [Bool.or_eq_true] at hj
  rcases hj with hj | hj
  ·rw [beq_iff_eq.1 hj]; exact hk
  ·cases ho : ops[j]? with
   | none => rw [ho] at hj; cases hj
   | some oj =>
    rw [ho] at hj
    simp only at hj
    rw [Array.any_eq_true'] at hj
    obtain ⟨e, he, h2⟩ := hj
    simp only [Bool.and_eq_true] at h2
    have h3 := ih e.on h2.2
    cases hl : listed.getD j true with
    | false => rfl
    | true =>
     have := hc j oj ho hl e he h2.1
     rw [h3] at this
     cases this
theorem closed_set {md : Region.Mode} {ops : Array Oper} {listed : Array Bool} {k : Nat} (hc : Closed md ops listed) (hk : k ∈ Region.ready md ops listed) : Closed md ops (listed.setIfInBounds k true) := by
 intro j oj hj hl e he hb
 obtain ⟨_, ok, hok, hall⟩ := mem_ready.1 hk
 have hmono : ∀ i, listed.getD i true = true → (listed.setIfInBounds k true).getD i true = true := fun i hi => by
  by_cases hik : k = i
  ·subst hik
   rw [Array.getD_eq_getD_getElem?, Array.getElem?_setIfInBounds]
   simp only [if_true]
   split <;> rfl
  ·rw [getD_set_ne true hik]; exact hi
 refine hmono _ ?_
 by_cases hjk : k = j
 ·subst hjk
  rw [hok] at hj
  cases hj
  have h1 := hall e he hb
  rcases Nat.lt_or_ge e.on listed.size with h' | h'
  ·simp [h'] at h1 ⊢; exact h1
  ·simp [Array.getElem?_eq_none h'] at h1
 ·rw [getD_set_ne true hjk] at hl
  exact hc j oj hj hl e he hb
def lexC3 (cls : Op → Cls) (md : Region.Mode) (ops : Array Oper) : List Nat → Array Bool → Bool
 | [], listed => (Region.ready md ops listed).isEmpty
 | k :: r, listed => (Region.ready md ops listed).contains k && freeC2 cls md ops listed k && lexC3 cls md ops r (listed.setIfInBounds k true)
def lexOk3 (cls : Op → Cls) (ops : Array Oper) (ord : List Nat) : Bool := ord.length == ops.size && lexC3 cls .any ops ord (Array.replicate ops.size false)
section
variable {P : Program} {N N0 : Nat} {w0 : World} {g0 : Gh} {pf rf : List FuncId}
theorem wpX_lex3 {cls : Op → Cls} {md : Region.Mode} {ops : Array Oper} {Q : Env → Store → Prop} : ∀ (l : List Nat) (listed : Array Bool) (e : Env) (S : Store), Closed md ops listed →
  lexC3 cls md ops l listed = true → wpL P cls ops Q (l.filterMap fun i => ops[i]?) e S → wpX P cls md ops Q l.length listed e S
 | [], _, _, _, _, hB, h => ⟨by simpa [lexC3] using hB, h⟩
 | k :: l, listed, e, S, hc, hB, h => by
  simp only [lexC3, Bool.and_eq_true] at hB
  obtain ⟨⟨hr, hf⟩, hB'⟩ := hB
  have hr : k ∈ Region.ready md ops listed := by simpa using hr
  obtain ⟨hun, o, h0, _⟩ := mem_ready.1 hr
  rw [List.filterMap_cons, h0] at h
  have hst : xOp P cls ops k (wpL P cls ops Q (l.filterMap fun i => ops[i]?)) e S := by unfold xOp; simp only [h0]; exact h
  obtain ⟨v, S', hy, hK⟩ := yieldsX_of_xOp h0 hst
  exact wpX_first2 h0 l.length listed e S S' (dep_un hc hun) (freeC2_spec h0 hf) hr hy (wpX_lex3 l _ _ _ (closed_set hc hr) hB' hK)
theorem region_draws3 {ro : Option Nat} {cls : Op → Cls} {ops : Array Oper} {ord : List Nat} {id : Nat} {Q : Env → Store → Prop} {Q' : Exit → Act → World → Prop} {e : Env} {S : Store} {a : Act} {w : World} (hm : P.follows .mixedOrders = true) (hB : lexOk3 cls ops ord = true) (hds : dstsOk N ops = true)
  (hQ : ∀ e S a w, Conc N w0 g0 e S a w → Q e S → Q' .normal a w) (hc : Conc N w0 g0 e S a w) (h : wpL P cls ops Q (ord.filterMap fun i => ops[i]?) e S) : (Code.region id ops true).wpIn (wR ro) 0 P Q' a w := by
 refine wpIn_region_any hm (wpAny_of_x ro (cls := cls) hds hQ _ _ e S a _ (hc.draw _) ?_)
 simp only [lexOk3, Bool.and_eq_true, beq_iff_eq] at hB
 have h0 : Closed .any ops (Array.replicate ops.size false) := fun j oj hj hl => by
  have hlt : j < ops.size := (Array.getElem?_eq_some_iff.1 hj).1
  simp [hlt] at hl
 have := wpX_lex3 (md := .any) ord (Array.replicate ops.size false) e S h0 hB.2 h
 rw [hB.1] at this
 exact this
end
def codeOk3 (P : Program) (pf rf : List FuncId) (N : Nat) (ord : List (Nat × List Nat)) : Code → Bool
 | .region id ops draw => dstsOk N ops && (match ord.lookup id with
  | none => !draw || lexOk2 (clsOf P pf rf) ops
  | some l => draw && lexOk3 (clsOf P pf rf) ops l)
 | .seq a b => codeOk3 P pf rf N ord a && codeOk3 P pf rf N ord b
 | .cond _ a b => codeOk3 P pf rf N ord a && codeOk3 P pf rf N ord b
 | .block _ b => codeOk3 P pf rf N ord b
 | .loop b => codeOk3 P pf rf N ord b
 | _ => true
def eraseC3 (ord : List (Nat × List Nat)) : Code → CC
 | .skip => .skip
 | .label _ => .skip
 | .region id ops _ => (match ord.lookup id with
  | none => .reg (ops.toList.map (eraseO ops))
  | some l => .reg ((l.filterMap fun i => ops[i]?).map (eraseO ops)))
 | .seq a b => .seq (eraseC3 ord a) (eraseC3 ord b)
 | .cond c a b => .cond c (eraseC3 ord a) (eraseC3 ord b)
 | .block id b => .block id (eraseC3 ord b)
 | .loop b => .loop (eraseC3 ord b)
 | .exit id => .exit id
 | .ret => .ret
 | _ => .bad
section
variable {P : Program} {N N0 : Nat} {w0 : World} {g0 : Gh} {pf rf : List FuncId} {ord : List (Nat × List Nat)}
theorem AW_ok3 {ro : Option Nat} (hm : P.follows .mixedOrders = true) (hN0 : g0.nid = N0) : ∀ (c : Code) (Q : AX → Env → Store → Prop) (e : Env) (S : Store) (a : Act) (w : World), codeOk3 P pf rf N ord c = true → Conc N w0 g0 e S a w → AW P pf rf N0 (eraseC3 ord c) Q e S → c.wpIn (wR ro) 0 P (toQ N w0 g0 Q) a w := by
 intro c
 induction c with
 | skip => intro Q e S a w _ hc h; exact wpIn_skip ⟨e, S, hc, h⟩
 | label l => intro Q e S a w _ hc h; exact wpIn_label ⟨e, S, hc, h⟩
 | ret => intro Q e S a w _ hc h; exact wpIn_ret ⟨e, S, hc, h⟩
 | exit id => intro Q e S a w _ hc h; exact wpIn_exit ⟨e, S, hc, h⟩
 | region id ops draw =>
  intro Q e S a w hok hc h
  have hQ : ∀ e S a w, Conc N w0 g0 e S a w → Q .norm e S → toQ N w0 g0 Q .normal a w := fun e S a w hc hq => ⟨e, S, hc, hq⟩
  simp only [codeOk3, Bool.and_eq_true] at hok
  simp only [eraseC3] at h
  cases ho : ord.lookup id with
  | none =>
   rw [ho] at hok h
   simp only at hok h
   rw [AW] at h
   have hL := wpL_of_ARg ops.toList e S h
   cases draw with
   | false => exact region_list hok.1 hQ hc hL ro
   | true => exact region_draws2 hm (by simpa using hok.2) hok.1 hQ hc hL
  | some l =>
   rw [ho] at hok h
   simp only at hok h
   rw [AW] at h
   have hL := wpL_of_ARg _ e S h
   cases draw with
   | false => simp at hok
   | true => exact region_draws3 hm (by simpa using hok.2) hok.1 hQ hc hL
 | seq x y ihx ihy =>
  intro Q e S a w hok hc h
  simp only [codeOk3, Bool.and_eq_true] at hok
  simp only [eraseC3, AW] at h
  refine wpIn_seq (Go.wpIn_mono (ihx _ e S a w hok.1 hc h) ?_)
  intro ex a' w' hq
  cases ex with
  | normal => obtain ⟨e', S', hc', h'⟩ := hq; exact ihy Q e' S' a' w' hok.2 hc' h'
  | exit id => exact hq
  | ret => exact hq
  | _ => exact hq.elim
 | cond c x y ihx ihy =>
  intro Q e S a w hok hc h
  simp only [codeOk3, Bool.and_eq_true] at hok
  simp only [eraseC3, AW] at h
  split at h
  ·rename_i b hb
   have hcb : a.eval c = .bool b := by
    obtain ⟨_, _, g, _, h4, _⟩ := hc
    have := ev_ok h4 c
    rw [hb] at this
    cases hv : a.eval c <;> rw [hv] at this <;> cases this
    rfl
   refine wpIn_cond_split hcb (fun ht => ihx Q e S a w hok.1 hc (h.1 ht)) (fun hf => ihy Q e S a w hok.2 hc (h.2 hf))
  ·exact h.elim
 | block id c ih =>
  intro Q e S a w hok hc h
  simp only [eraseC3, AW] at h
  refine wpIn_block (Go.wpIn_mono (ih _ e S a w hok hc h) ?_)
  intro ex a' w' hq
  cases ex with
  | normal => exact hq
  | exit i =>
   obtain ⟨e', S', hc', h'⟩ := hq
   simp only [blockQ] at h'
   simp only [Exit.inBlock]
   by_cases hi : i = id
   ·rw [if_pos hi] at h' ⊢; exact ⟨e', S', hc', h'⟩
   ·rw [if_neg hi] at h' ⊢; exact ⟨e', S', hc', h'⟩
  | ret => exact hq
  | _ => exact hq.elim
 | loop c ih =>
  intro Q e S a w hok hc h
  simp only [eraseC3, AW] at h
  obtain ⟨I, ⟨n, e', S', hwk, hI⟩, hround⟩ := h
  refine wpIn_loop_ghost (fun n a w => ∃ e S, Conc N w0 g0 e S a w ∧ I n e S) n ⟨e', S', hwk N w0 g0 a w hN0 hc, hI⟩ ?_
  rintro n a w ⟨e, S, hc, hI⟩
  refine Go.wpIn_mono (ih _ e S a w hok hc (hround n e S hI)) ?_
  intro ex a' w' hq
  cases ex with
  | normal =>
   obtain ⟨e1, S1, hc1, n', e2, S2, hlt, hwk', hI'⟩ := hq
   exact ⟨n', hlt, e2, S2, hwk' N w0 g0 a' w' hN0 hc1, hI'⟩
  | exit i => exact hq
  | ret => exact hq
  | _ => exact hq.elim
 | _ => intro Q e S a w _ _ h; exact h.elim
end
section
variable {P : Program}
end
end Go.Proofs.YtlefikdjhnaapaaGreatDoor.Pe
namespace Go.Proofs.YtlefikdjhnaapaaGreatDoor.Pe
open Go Go.RowKit
variable [Tab]
def keeps (Kp : List Nat) (S S' : Store) : Prop := ∀ k ∈ Kp, S'[k]? = S[k]?
inductive K4 where
 | rp | wr | al | ot
def kdO (lp wp : List Nat) (d : Option Nat) (op : Op) : K4 := match d with
 | some d => if lp.contains d then .rp else if wp.contains d then (match op with
   | .call c => (match c.callee with
    | .builtin _ => .al
    | _ => .wr)
   | _ => .wr) else match op with
  | .alloc _ => .al
  | _ => .ot
 | none => .ot
inductive K5 where
 | rp | wr | ap | ot
def kdA (lp wp : List Nat) (d : Option Nat) (op : Op) : K5 := match kdO lp wp d op with
 | .rp => .rp
 | .wr => .wr
 | .al => (match op with
  | .call _ => .ap
  | _ => .ot)
 | .ot => .ot
def XStep4 (P : Program) (Kp lp wp : List Nat) (cls : Op → Cls) (o : Oper) (e : Env) (S : Store) (v : AV) (S' : Store) : Prop :=
 match kdO lp wp o.dst o.op with
 | .rp => S' = S ∧ ∃ k ∈ Kp, ∀ S2 : Store, S2[k]? = S[k]? → Does P o e S2 v S2
 | .wr => S'.length = S.length ∧ keeps Kp S S' ∧ ∀ R, Does P o e (S ++ R) v (S' ++ R)
 | .al => (∃ z, S' = S ++ [z] ∧ ∀ S2 : Store, S2.length = S.length → Does P o e S2 v (S2 ++ [z])) ∧ keeps Kp S S'
 | .ot => XStep P (cls o.op) o e S v S' ∧ keeps Kp S S'
theorem XStep4.does {P : Program} {Kp lp wp : List Nat} {cls : Op → Cls} {o : Oper} {e : Env} {S S' : Store} {v : AV} (h : XStep4 P Kp lp wp cls o e S v S') : Does P o e S v S' := by
 unfold XStep4 at h
 split at h
 ·obtain ⟨rfl, k, _, h⟩ := h; exact h _ rfl
 ·have := h.2.2 []; simpa using this
 ·obtain ⟨⟨z, rfl, h⟩, _⟩ := h; exact h _ rfl
 ·exact h.1.does
theorem XStep4.keeps {P : Program} {Kp lp wp : List Nat} {cls : Op → Cls} {o : Oper} {e : Env} {S S' : Store} {v : AV} (h : XStep4 P Kp lp wp cls o e S v S') : keeps Kp S S' := by
 unfold XStep4 at h
 split at h
 ·obtain ⟨rfl, _⟩ := h; exact fun _ _ => rfl
 ·exact h.2.1
 ·exact h.2
 ·exact h.2
theorem XStep4.put {P : Program} {Kp lp wp : List Nat} {cls : Op → Cls} {o : Oper} {e : Env} {S S' : Store} {v : AV} {ops : Array Oper} {dst : Option Nat} {u : AV} (h : ∀ d, dst = some d → d ∉ o.looksAt ops) : XStep4 P Kp lp wp cls o (Pe.put e dst u) S v S' ↔ XStep4 P Kp lp wp cls o e S v S' := by
 unfold XStep4
 split
 ·exact and_congr Iff.rfl (exists_congr fun k => and_congr Iff.rfl (forall_congr' fun S2 => imp_congr Iff.rfl (Does.put h)))
 ·exact and_congr Iff.rfl (and_congr Iff.rfl (forall_congr' fun R => Does.put h))
 ·exact and_congr (exists_congr fun z => and_congr Iff.rfl (forall_congr' fun S2 => imp_congr Iff.rfl (Does.put h))) Iff.rfl
 ·exact and_congr (XStep.put h) Iff.rfl
def indep4 (lp wp : List Nat) (cls : Op → Cls) (ops : Array Oper) (x y : Oper) : Bool :=
 x.apart ops y && (match kdO lp wp x.dst x.op, kdO lp wp y.dst y.op with
  | .rp, _ => true
  | _, .rp => true
  | .wr, .al => true
  | .wr, .ot => (match cls y.op with | .free => true | _ => false)
  | .al, .ot => (match cls y.op with | .free => true | _ => false)
  | .ot, .wr => (match cls x.op with | .free => true | _ => false)
  | .ot, .al => (match cls x.op with | .free => true | .read => true | _ => false)
  | .ot, .ot => (match cls x.op, cls y.op with
   | .free, _ => true
   | _, .free => true
   | .read, .read => true
   | .read, .fresh => true
   | _, _ => false)
  | _, _ => false)
theorem XStep4.swap {P : Program} {Kp lp wp : List Nat} {cls : Op → Cls} {ops : Array Oper} {oi oj : Oper} {e : Env} {S Si Sj : Store} {v u : AV} (hap : indep4 lp wp cls ops oi oj = true) (hi : XStep4 P Kp lp wp cls oi e S v Si) (hj : XStep4 P Kp lp wp cls oj e Si u Sj) :
  ∃ Sm, XStep4 P Kp lp wp cls oj e S u Sm ∧ XStep4 P Kp lp wp cls oi e Sm v Sj := by
 have hki := hi.keeps
 have hkj := hj.keeps
 simp only [indep4, Bool.and_eq_true] at hap
 have hcls := hap.2
 unfold XStep4 at hi hj ⊢
 cases hri : kdO lp wp oi.dst oi.op with
 | rp =>
  simp only [hri] at hi hj ⊢
  obtain ⟨rfl, k, hk, hi⟩ := hi
  exact ⟨Sj, hj, rfl, k, hk, fun S2 h2 => hi S2 (h2.trans (hkj k hk))⟩
 | wr =>
  cases hrj : kdO lp wp oj.dst oj.op with
  | rp =>
   simp only [hri, hrj] at hi hj ⊢
   obtain ⟨rfl, k, hk, hj⟩ := hj
   exact ⟨S, ⟨rfl, k, hk, fun S2 h2 => hj S2 (h2.trans (hki k hk).symm)⟩, hi⟩
  | wr => rw [hri, hrj] at hcls; cases hcls
  | al =>
   simp only [hri, hrj] at hi hj ⊢
   obtain ⟨hl, _, hi⟩ := hi
   obtain ⟨⟨z, rfl, hj⟩, _⟩ := hj
   have h1 : Pe.keeps Kp S (S ++ [z]) := fun k hk => by
    have h1 := hkj k hk
    rcases Nat.lt_trichotomy k S.length with hlt | heq | hgt
    ·rw [List.getElem?_append_left hlt]
    ·exfalso
     rw [heq, ← hl, List.getElem?_append_right (Nat.le_refl _), Nat.sub_self, List.getElem?_eq_none (Nat.le_refl _)] at h1
     cases h1
    ·rw [List.getElem?_eq_none (by simp; omega), List.getElem?_eq_none (by omega)]
   have hS : Pe.keeps Kp S (S ++ [z]) ∧ Pe.keeps Kp (S ++ [z]) (Si ++ [z]) := ⟨h1, fun k hk => by rw [hkj k hk, hki k hk, h1 k hk]⟩
   refine ⟨S ++ [z], ⟨⟨z, rfl, fun S2 h2 => hj S2 (by omega)⟩, hS.1⟩, by simp [hl], hS.2, fun R => ?_⟩
   rw [List.append_assoc, List.append_assoc]
   exact hi _
  | ot =>
   simp only [hri, hrj] at hi hj hcls ⊢
   obtain ⟨hl, hk, hi⟩ := hi
   cases hcj : cls oj.op with
   | free =>
    rw [hcj] at hj
    obtain ⟨⟨rfl, hj⟩, _⟩ := hj
    exact ⟨S, ⟨⟨rfl, hj⟩, fun _ _ => rfl⟩, hl, hk, hi⟩
   | read => rw [hcj] at hcls; cases hcls
   | fresh => rw [hcj] at hcls; cases hcls
   | write => rw [hcj] at hcls; cases hcls
 | al =>
  cases hrj : kdO lp wp oj.dst oj.op with
  | rp =>
   simp only [hri, hrj] at hi hj ⊢
   obtain ⟨rfl, k, hk, hj⟩ := hj
   exact ⟨S, ⟨rfl, k, hk, fun S2 h2 => hj S2 (h2.trans (hki k hk).symm)⟩, hi⟩
  | wr => rw [hri, hrj] at hcls; cases hcls
  | al => rw [hri, hrj] at hcls; cases hcls
  | ot =>
   simp only [hri, hrj] at hi hj hcls ⊢
   cases hcj : cls oj.op with
   | free =>
    rw [hcj] at hj
    obtain ⟨⟨rfl, hj⟩, _⟩ := hj
    exact ⟨S, ⟨⟨rfl, hj⟩, fun _ _ => rfl⟩, hi⟩
   | read => rw [hcj] at hcls; cases hcls
   | fresh => rw [hcj] at hcls; cases hcls
   | write => rw [hcj] at hcls; cases hcls
 | ot =>
  cases hrj : kdO lp wp oj.dst oj.op with
  | rp =>
   simp only [hri, hrj] at hi hj ⊢
   obtain ⟨rfl, k, hk, hj⟩ := hj
   exact ⟨S, ⟨rfl, k, hk, fun S2 h2 => hj S2 (h2.trans (hki k hk).symm)⟩, hi⟩
  | wr =>
   simp only [hri, hrj] at hi hj hcls ⊢
   cases hci : cls oi.op with
   | free =>
    rw [hci] at hi
    obtain ⟨⟨rfl, hi⟩, _⟩ := hi
    exact ⟨Sj, hj, ⟨rfl, hi⟩, fun _ _ => rfl⟩
   | read => rw [hci] at hcls; cases hcls
   | fresh => rw [hci] at hcls; cases hcls
   | write => rw [hci] at hcls; cases hcls
  | al =>
   simp only [hri, hrj] at hi hj hcls ⊢
   cases hci : cls oi.op with
   | free =>
    rw [hci] at hi
    obtain ⟨⟨rfl, hi⟩, _⟩ := hi
    exact ⟨Sj, hj, ⟨rfl, hi⟩, fun _ _ => rfl⟩
   | read =>
    rw [hci] at hi
    obtain ⟨⟨rfl, hi⟩, _⟩ := hi
    obtain ⟨⟨z, rfl, hj⟩, hk⟩ := hj
    exact ⟨_, ⟨⟨z, rfl, hj⟩, hk⟩, ⟨rfl, fun R' => by rw [List.append_assoc]; exact hi _⟩, fun _ _ => rfl⟩
   | fresh => rw [hci] at hcls; cases hcls
   | write => rw [hci] at hcls; cases hcls
  | ot =>
   simp only [hri, hrj] at hi hj hcls ⊢
   obtain ⟨hi, _⟩ := hi
   obtain ⟨hj, _⟩ := hj
   cases hci : cls oi.op with
   | free =>
    rw [hci] at hi
    obtain ⟨rfl, hi⟩ := hi
    exact ⟨Sj, ⟨hj, hkj⟩, ⟨rfl, hi⟩, fun _ _ => rfl⟩
   | read =>
    rw [hci] at hi
    obtain ⟨rfl, hi⟩ := hi
    cases hcj : cls oj.op with
    | free =>
     rw [hcj] at hj
     obtain ⟨rfl, hj⟩ := hj
     exact ⟨_, ⟨⟨rfl, hj⟩, hkj⟩, ⟨rfl, hi⟩, fun _ _ => rfl⟩
    | read =>
     rw [hcj] at hj
     obtain ⟨rfl, hj⟩ := hj
     exact ⟨_, ⟨⟨rfl, hj⟩, hkj⟩, ⟨rfl, hi⟩, fun _ _ => rfl⟩
    | fresh =>
     rw [hcj] at hj
     obtain ⟨⟨R, rfl⟩, hj⟩ := hj
     exact ⟨_, ⟨⟨⟨R, rfl⟩, hj⟩, hkj⟩, ⟨rfl, fun R' => by rw [List.append_assoc]; exact hi (R ++ R')⟩, fun _ _ => rfl⟩
    | write => rw [hci, hcj] at hcls; cases hcls
   | fresh =>
    rw [hci] at hi
    cases hcj : cls oj.op with
    | free =>
     rw [hcj] at hj
     obtain ⟨rfl, hj⟩ := hj
     exact ⟨_, ⟨⟨rfl, hj⟩, fun _ _ => rfl⟩, hi, hki⟩
    | read => rw [hci, hcj] at hcls; cases hcls
    | fresh => rw [hci, hcj] at hcls; cases hcls
    | write => rw [hci, hcj] at hcls; cases hcls
   | write =>
    rw [hci] at hi
    cases hcj : cls oj.op with
    | free =>
     rw [hcj] at hj
     obtain ⟨rfl, hj⟩ := hj
     exact ⟨_, ⟨⟨rfl, hj⟩, fun _ _ => rfl⟩, hi, hki⟩
    | read => rw [hci, hcj] at hcls; cases hcls
    | fresh => rw [hci, hcj] at hcls; cases hcls
    | write => rw [hci, hcj] at hcls; cases hcls
section
variable {P : Program} {N N0 : Nat} {w0 : World} {g0 : Gh} {pf rf : List FuncId} {Kp lp wp : List Nat}
def xOp4 (P : Program) (Kp lp wp : List Nat) (cls : Op → Cls) (ops : Array Oper) (i : Nat) (K : Env → Store → Prop) (e : Env) (S : Store) : Prop :=
 match ops[i]? with
 | none => K e S
 | some o => match aWant ops o e with
  | some true => ∃ v S', XStep4 P Kp lp wp cls o e S v S' ∧ K (Pe.put e o.dst v) S'
  | some false => K (Pe.put e o.dst (.tup [])) S
  | none => False
theorem xOp_mono4 {cls : Op → Cls} {ops : Array Oper} {i : Nat} {K K' : Env → Store → Prop} {e : Env} {S : Store} (h : ∀ e S, K e S → K' e S) (hh : xOp4 P Kp lp wp cls ops i K e S) : xOp4 P Kp lp wp cls ops i K' e S := by
 unfold xOp4 at *
 split
 ·rename_i ho; simp only [ho] at hh; exact h _ _ hh
 ·rename_i o ho
  simp only [ho] at hh
  split
  ·rename_i hw; simp only [hw] at hh; obtain ⟨v, S', h1, h2⟩ := hh; exact ⟨v, S', h1, h _ _ h2⟩
  ·rename_i hw; simp only [hw] at hh; exact h _ _ hh
  ·rename_i hw; simp only [hw] at hh
def wpX4 (P : Program) (Kp lp wp : List Nat) (cls : Op → Cls) (md : Region.Mode) (ops : Array Oper) (Q : Env → Store → Prop) : Nat → Array Bool → Env → Store → Prop
 | 0, listed, e, S => Region.ready md ops listed = [] ∧ Q e S
 | fuel + 1, listed, e, S =>
  (Region.ready md ops listed = [] → Q e S) ∧
  ∀ i ∈ Region.ready md ops listed, xOp4 P Kp lp wp cls ops i (wpX4 P Kp lp wp cls md ops Q fuel (listed.setIfInBounds i true)) e S
theorem wpAny_of_x4 {ro : Option Nat} {cls : Op → Cls} {md : Region.Mode} {ops : Array Oper} (hds : dstsOk N ops = true) {Q : Env → Store → Prop} {Q' : Exit → Act → World → Prop} (hQ : ∀ e S a w, Conc N w0 g0 e S a w → Q e S → Q' .normal a w) :
  ∀ (fuel : Nat) (listed : Array Bool) (e : Env) (S : Store) (a : Act) (w : World), Conc N w0 g0 e S a w → wpX4 P Kp lp wp cls md ops Q fuel listed e S → wpAnyIn (wR ro) 0 P md ops Q' fuel listed a w
 | 0, _, e, S, a, w, hc, h => ⟨h.1, hQ e S a w hc h.2⟩
 | fuel + 1, listed, e, S, a, w, hc, h => ⟨fun h0 => hQ e S a w hc (h.1 h0), fun i hi => by
  have hx := h.2 i hi
  unfold xOp4 at hx
  unfold wpOpIn
  split
  ·rename_i ho; simp only [ho] at hx; exact wpAny_of_x4 hds hQ fuel _ e S a w hc hx
  ·rename_i o ho
   simp only [ho] at hx
   have hd := dstsOk_spec hds ho
   have her : ∃ g, ERel w g e a := by obtain ⟨_, _, g, _, h4, _⟩ := hc; exact ⟨g, h4⟩
   obtain ⟨g, her⟩ := her
   split at hx
   ·rename_i hw
    rw [aWant_ok her hw]
    obtain ⟨v, S', h1, h2⟩ := hx
    simp only [if_true]
    exact hc.does hd h1.does (fun a' w' hc' => wpAny_of_x4 hds hQ fuel _ _ _ a' w' hc' h2) ro
   ·rename_i hw
    rw [aWant_ok her hw]
    simp only [Bool.false_eq_true, if_false]
    exact ⟨fun _ _ => trivial, wpAny_of_x4 hds hQ fuel _ _ _ _ w (hc.skip hd) hx⟩
   ·exact hx.elim⟩
def YieldsX4 (P : Program) (Kp lp wp : List Nat) (cls : Op → Cls) (ops : Array Oper) (o : Oper) (e : Env) (S : Store) (v : AV) (S' : Store) : Prop :=
 (aWant ops o e = some true ∧ XStep4 P Kp lp wp cls o e S v S') ∨ (aWant ops o e = some false ∧ v = .tup [] ∧ S' = S)
theorem YieldsX4.xOp4 {cls : Op → Cls} {ops : Array Oper} {i : Nat} {o : Oper} {e : Env} {S S' : Store} {v : AV} (hi : ops[i]? = some o) (hy : YieldsX4 P Kp lp wp cls ops o e S v S') {K : Env → Store → Prop} (h : K (Pe.put e o.dst v) S') : xOp4 P Kp lp wp cls ops i K e S := by
 unfold Pe.xOp4
 simp only [hi]
 rcases hy with ⟨hw, hx⟩ | ⟨hw, rfl, rfl⟩
 ·simp only [hw]; exact ⟨v, S', hx, h⟩
 ·simp only [hw]; exact h
theorem yieldsX_of_xOp4 {cls : Op → Cls} {ops : Array Oper} {i : Nat} {o : Oper} {e : Env} {S : Store} {K : Env → Store → Prop} (hi : ops[i]? = some o) (h : xOp4 P Kp lp wp cls ops i K e S) : ∃ v S', YieldsX4 P Kp lp wp cls ops o e S v S' ∧ K (Pe.put e o.dst v) S' := by
 unfold xOp4 at h
 simp only [hi] at h
 split at h
 ·rename_i hw; obtain ⟨v, S', h1, h2⟩ := h; exact ⟨v, S', .inl ⟨hw, h1⟩, h2⟩
 ·rename_i hw; exact ⟨.tup [], S, .inr ⟨hw, rfl, rfl⟩, h⟩
 ·exact h.elim
theorem xOp_swap4 {cls : Op → Cls} {ops : Array Oper} {j : Nat} {oi oj : Oper} {v : AV} {e : Env} {S Si : Store} (hj : ops[j]? = some oj) (hap : indep4 lp wp cls ops oi oj = true) {K : Env → Store → Prop}
  (hy : YieldsX4 P Kp lp wp cls ops oi e S v Si) (h : xOp4 P Kp lp wp cls ops j K (Pe.put e oi.dst v) Si) :
  xOp4 P Kp lp wp cls ops j (fun e' S' => ∃ Si', YieldsX4 P Kp lp wp cls ops oi e' S' v Si' ∧ K (Pe.put e' oi.dst v) Si') e S := by
 have hap0 := hap
 simp only [indep4, Bool.and_eq_true] at hap
 obtain ⟨h1, h2, h3⟩ := Oper.apart_spec hap.1
 have keep : ∀ u, aWant ops oi (Pe.put e oj.dst u) = aWant ops oi e := fun u => aWant_put h3
 unfold xOp4 at *
 simp only [hj] at *
 rw [aWant_put h1] at h
 split
 ·rename_i hw
  simp only [hw] at h
  obtain ⟨u, Sj, hu, hn⟩ := h
  rw [XStep4.put h1] at hu
  rcases hy with ⟨hwi, hx⟩ | ⟨hwi, rfl, rfl⟩
  ·obtain ⟨Sm, a1, a2⟩ := XStep4.swap hap0 hx hu
   exact ⟨u, Sm, a1, Sj, .inl ⟨by rw [keep]; exact hwi, (XStep4.put h3).2 a2⟩, by rw [← put_comm e v u h2]; exact hn⟩
  ·exact ⟨u, Sj, hu, Sj, .inr ⟨by rw [keep]; exact hwi, rfl, rfl⟩, by rw [← put_comm e _ u h2]; exact hn⟩
 ·rename_i hw
  simp only [hw] at h
  refine ⟨Si, ?_, by rw [← put_comm e v _ h2]; exact h⟩
  rcases hy with ⟨hwi, hx⟩ | ⟨hwi, rfl, rfl⟩
  ·exact .inl ⟨by rw [keep]; exact hwi, (XStep4.put h3).2 hx⟩
  ·exact .inr ⟨by rw [keep]; exact hwi, rfl, rfl⟩
 ·rename_i hw
  simp only [hw] at h
def wpL4 (P : Program) (Kp lp wp : List Nat) (cls : Op → Cls) (ops : Array Oper) (Q : Env → Store → Prop) : List Oper → Env → Store → Prop
 | [], e, S => Q e S
 | o :: rest, e, S => match aWant ops o e with
  | some true => ∃ v S', XStep4 P Kp lp wp cls o e S v S' ∧ wpL4 P Kp lp wp cls ops Q rest (Pe.put e o.dst v) S'
  | some false => wpL4 P Kp lp wp cls ops Q rest (Pe.put e o.dst (.tup [])) S
  | none => False
def freeC24 (lp wp : List Nat) (cls : Op → Cls) (md : Region.Mode) (ops : Array Oper) (listed : Array Bool) (k : Nat) : Bool :=
 match ops[k]? with
 | none => false
 | some ok => (List.range ops.size).all fun j =>
  match ops[j]? with
  | none => true
  | some oj => j == k || listed.getD j true || dep md ops k 8 j || indep4 lp wp cls ops ok oj
theorem freeC2_spec4 {cls : Op → Cls} {md : Region.Mode} {ops : Array Oper} {listed : Array Bool} {k : Nat} {ok : Oper} (hk : ops[k]? = some ok) (h : freeC24 lp wp cls md ops listed k = true) :
  ∀ (j : Nat) oj, ops[j]? = some oj → j ≠ k → listed.getD j true = false → (∀ n, dep md ops k n j = false) → indep4 lp wp cls ops ok oj = true := by
 intro j oj hj hne hun hno
 unfold freeC24 at h
 rw [hk] at h
 simp only at h
 have hlt : j < ops.size := (Array.getElem?_eq_some_iff.1 hj).1
 have h1 := (List.all_eq_true.1 h) j (List.mem_range.2 hlt)
 rw [hj] at h1
 simp only [Bool.or_eq_true, beq_iff_eq] at h1
 rcases h1 with ((h1 | h1) | h1) | h1
 ·exact absurd h1 hne
 ·rw [hun] at h1; cases h1
 ·rw [hno 8] at h1; cases h1
 ·exact h1
theorem wpX_first24 {cls : Op → Cls} {md : Region.Mode} {ops : Array Oper} {Q : Env → Store → Prop} {i : Nat} {oi : Oper} {v : AV} (hi : ops[i]? = some oi) :
  ∀ (fuel : Nat) (listed : Array Bool) (e : Env) (S Si : Store),
   (∀ n j, dep md ops i n j = true → listed.getD j true = false) →
   (∀ (j : Nat) oj, ops[j]? = some oj → j ≠ i → listed.getD j true = false → (∀ n, dep md ops i n j = false) → indep4 lp wp cls ops oi oj = true) →
   i ∈ Region.ready md ops listed → YieldsX4 P Kp lp wp cls ops oi e S v Si →
   wpX4 P Kp lp wp cls md ops Q fuel (listed.setIfInBounds i true) (Pe.put e oi.dst v) Si → wpX4 P Kp lp wp cls md ops Q (fuel + 1) listed e S := by
 intro fuel
 induction fuel with
 | zero =>
  intro listed e S Si _ _ hr hy H
  refine ⟨fun h => (by rw [h] at hr; cases hr), fun j hj => ?_⟩
  by_cases hji : j = i
  ·subst hji; exact hy.xOp4 hi H
  ·have := ready_mono hj hji
   rw [H.1] at this
   cases this
 | succ fuel ih =>
  intro listed e S Si hinv hfree hr hy H
  refine ⟨fun h => (by rw [h] at hr; cases hr), fun j hj => ?_⟩
  by_cases hji : j = i
  ·subst hji; exact hy.xOp4 hi H
  ·have h1 := H.2 j (ready_mono hj hji)
   have hnd := dep_ready hinv hj hji
   obtain ⟨hjun, oj, hoj, hall⟩ := mem_ready.1 hj
   have h2 := xOp_swap4 hoj (hfree j oj hoj hji hjun hnd) hy h1
   have hinv' : ∀ n k, dep md ops i n k = true → (listed.setIfInBounds j true).getD k true = false := fun n k hk => by
    have hjk : j ≠ k := fun e => by rw [← e, hnd n] at hk; cases hk
    rw [getD_set_ne true hjk]
    exact hinv n k hk
   have hfree' : ∀ (k : Nat) ok, ops[k]? = some ok → k ≠ i → (listed.setIfInBounds j true).getD k true = false →
     (∀ n, dep md ops i n k = false) → indep4 lp wp cls ops oi ok = true := fun k ok hk hki hun hno => by
    refine hfree k ok hk hki ?_ hno
    by_cases hjk : j = k
    ·subst hjk; exact hjun
    ·rw [getD_set_ne true hjk] at hun; exact hun
   refine xOp_mono4 (fun e' S' h3 => ?_) h2
   obtain ⟨Si', h3, h4⟩ := h3
   refine ih (listed.setIfInBounds j true) e' S' Si' hinv' hfree' (ready_mono hr (Ne.symm hji)) h3 ?_
   rw [Array.setIfInBounds_comm _ _ hji]
   exact h4
def lexC34 (lp wp : List Nat) (cls : Op → Cls) (md : Region.Mode) (ops : Array Oper) : List Nat → Array Bool → Bool
 | [], listed => (Region.ready md ops listed).isEmpty
 | k :: r, listed => (Region.ready md ops listed).contains k && freeC24 lp wp cls md ops listed k && lexC34 lp wp cls md ops r (listed.setIfInBounds k true)
def lexOk34 (lp wp : List Nat) (cls : Op → Cls) (ops : Array Oper) (ord : List Nat) : Bool := ord.length == ops.size && lexC34 lp wp cls .any ops ord (Array.replicate ops.size false)
theorem wpX_lex34 {cls : Op → Cls} {md : Region.Mode} {ops : Array Oper} {Q : Env → Store → Prop} : ∀ (l : List Nat) (listed : Array Bool) (e : Env) (S : Store), Closed md ops listed →
  lexC34 lp wp cls md ops l listed = true → wpL4 P Kp lp wp cls ops Q (l.filterMap fun i => ops[i]?) e S → wpX4 P Kp lp wp cls md ops Q l.length listed e S
 | [], _, _, _, _, hB, h => ⟨by simpa [lexC34] using hB, h⟩
 | k :: l, listed, e, S, hc, hB, h => by
  simp only [lexC34, Bool.and_eq_true] at hB
  obtain ⟨⟨hr, hf⟩, hB'⟩ := hB
  have hr : k ∈ Region.ready md ops listed := by simpa using hr
  obtain ⟨hun, o, h0, _⟩ := mem_ready.1 hr
  rw [List.filterMap_cons, h0] at h
  have hst : xOp4 P Kp lp wp cls ops k (wpL4 P Kp lp wp cls ops Q (l.filterMap fun i => ops[i]?)) e S := by unfold xOp4; simp only [h0]; exact h
  obtain ⟨v, S', hy, hK⟩ := yieldsX_of_xOp4 h0 hst
  exact wpX_first24 h0 l.length listed e S S' (dep_un hc hun) (freeC2_spec4 h0 hf) hr hy (wpX_lex34 l _ _ _ (closed_set hc hr) hB' hK)
theorem region_draws34 {ro : Option Nat} {cls : Op → Cls} {ops : Array Oper} {ord : List Nat} {id : Nat} {Q : Env → Store → Prop} {Q' : Exit → Act → World → Prop} {e : Env} {S : Store} {a : Act} {w : World} (hm : P.follows .mixedOrders = true) (hB : lexOk34 lp wp cls ops ord = true) (hds : dstsOk N ops = true)
  (hQ : ∀ e S a w, Conc N w0 g0 e S a w → Q e S → Q' .normal a w) (hc : Conc N w0 g0 e S a w) (h : wpL4 P Kp lp wp cls ops Q (ord.filterMap fun i => ops[i]?) e S) : (Code.region id ops true).wpIn (wR ro) 0 P Q' a w := by
 refine wpIn_region_any hm (wpAny_of_x4 (Kp := Kp) (lp := lp) (wp := wp) (cls := cls) hds hQ _ _ e S a _ (hc.draw _) ?_)
 simp only [lexOk34, Bool.and_eq_true, beq_iff_eq] at hB
 have h0 : Closed .any ops (Array.replicate ops.size false) := fun j oj hj hl => by
  have hlt : j < ops.size := (Array.getElem?_eq_some_iff.1 hj).1
  simp [hlt] at hl
 have := wpX_lex34 (md := .any) ord (Array.replicate ops.size false) e S h0 hB.2 h
 rw [hB.1] at this
 exact this
end
inductive CD where
 | of (c : CC) | seq (a b : CD) | cond (c : Operand) (t f : CD) | block (id : Nat) (b : CD) | loop (b : CD) | spec (Kp lp wp : List Nat) (l : List AO) | weak (c : CD)
def WkP (N0 : Nat) (e : Env) (S : Store) (K : Env → Store → Prop) : Prop := ∃ e' S', Weak N0 e S e' S' ∧ K e' S'
theorem wk1 {N0 : Nat} {e e' : Env} {S S' : Store} {K : Env → Store → Prop} (hw : Weak N0 e S e' S') (h : K e' S') : WkP N0 e S K := ⟨e', S', hw, h⟩
def plcOk (Kp : List Nat) (op : Op) (e : Env) : Bool := match op with
 | .load _ x => (match ev e x with
  | .ptr k _ => Kp.contains k
  | .pst _ _ => !Kp.isEmpty
  | _ => false)
 | _ => false
def CallF (P : Program) (op : Op) (e : Env) (S : Store) (v : AV) (S' : Store) : Prop := S'.length = S.length ∧ match op with
 | .call c => (match c.callee with
  | .value (.func f) => ∀ R, AC P f ((c.args.toList.map (ev e)).map AV.wk) (S ++ R) v (S' ++ R)
  | _ => False)
 | _ => False
def AppF (P : Program) (op : Op) (e : Env) (S : Store) : Option (AV × SObj) := match op with
 | .call c => (match c.callee with
  | .builtin .append => (match c.args.toList, c.argTypes.toList with
   | [x, y], [t, u] => aAppW P t u S (ev e x) (ev e y)
   | _, _ => none)
  | _ => none)
 | _ => none
def ARg4 (P : Program) (pf rf : List FuncId) (Kp lp wp : List Nat) : List AO → Env → Store → (Env → Store → Prop) → Prop
 | [], e, S, K => K e S
 | o :: rest, e, S, K => o.gd = none ∧ match kdA lp wp o.dst o.op with
  | .rp => ARg P pf rf [⟨o.dst, o.op, none⟩] e S (fun e' S' => plcOk Kp o.op e = true ∧ ARg4 P pf rf Kp lp wp rest e' S' K)
  | .ap => ∃ v z, AppF P o.op e S = some (v, z) ∧ keeps Kp S (S ++ [z]) ∧ ARg4 P pf rf Kp lp wp rest (put e o.dst v) (S ++ [z]) K
  | .wr => ∃ v S', CallF P o.op e S v S' ∧ keeps Kp S S' ∧ ARg4 P pf rf Kp lp wp rest (put e o.dst v) S' K
  | _ => ARg P pf rf [⟨o.dst, o.op, none⟩] e S (fun e' S' => keeps Kp S S' ∧ ARg4 P pf rf Kp lp wp rest e' S' K)
def AX4 (P : Program) (pf rf : List FuncId) (N0 : Nat) : CD → (AX → Env → Store → Prop) → Env → Store → Prop
 | .of c, Q, e, S => AW P pf rf N0 c Q e S
 | .spec Kp lp wp l, Q, e, S => ARg4 P pf rf Kp lp wp l e S (Q .norm)
 | .weak c, Q, e, S => WkP N0 e S (AX4 P pf rf N0 c Q)
 | .seq a b, Q, e, S => AX4 P pf rf N0 a (thenQ Q (AX4 P pf rf N0 b Q)) e S
 | .cond c t f, Q, e, S => match ev e c with
  | .bo b => iteP b (AX4 P pf rf N0 t Q e S) (AX4 P pf rf N0 f Q e S)
  | _ => False
 | .block id b, Q, e, S => AX4 P pf rf N0 b (blockQ id Q) e S
 | .loop b, Q, e, S => ALoop N0 (AX4 P pf rf N0 b) Q e S
def hasSp (sp : List (Nat × (List Nat × List Nat × List Nat))) : Code → Bool
 | .region id _ _ => (sp.lookup id).isSome
 | .seq a b => hasSp sp a || hasSp sp b
 | .cond _ a b => hasSp sp a || hasSp sp b
 | .block _ b => hasSp sp b
 | .loop b => hasSp sp b
 | _ => false
def ordOf (ord : List (Nat × List Nat)) (id : Nat) (ops : Array Oper) : List Nat := match ord.lookup id with
 | none => List.range ops.size
 | some l => l
def eraseC4 (sp : List (Nat × (List Nat × List Nat × List Nat))) (ord : List (Nat × List Nat)) (c : Code) : CD :=
 if !hasSp sp c then .of (eraseC3 ord c) else match c with
 | .region id ops d => (match sp.lookup id with
  | some (Kp, lp, wp) => if lp.isEmpty && wp.isEmpty then .weak (.of (eraseC3 ord (.region id ops d))) else .weak (.spec Kp lp wp ((if d then (ordOf ord id ops).filterMap (fun i => ops[i]?) else ops.toList).map (eraseO ops)))
  | none => .of .bad)
 | .seq a b => .seq (eraseC4 sp ord a) (eraseC4 sp ord b)
 | .cond c a b => .cond c (eraseC4 sp ord a) (eraseC4 sp ord b)
 | .block id b => .block id (eraseC4 sp ord b)
 | .loop b => .loop (eraseC4 sp ord b)
 | _ => .of .bad
def codeOk4 (P : Program) (pf rf : List FuncId) (N : Nat) (sp : List (Nat × (List Nat × List Nat × List Nat))) (ord : List (Nat × List Nat)) : Code → Bool
 | .region id ops draw => (match sp.lookup id with
  | some (_, lp, wp) => if lp.isEmpty && wp.isEmpty then codeOk3 P pf rf N ord (.region id ops draw) else dstsOk N ops && (!draw || lexOk34 lp wp (clsOf P pf rf) ops (ordOf ord id ops))
  | none => codeOk3 P pf rf N ord (.region id ops draw))
 | .seq a b => codeOk4 P pf rf N sp ord a && codeOk4 P pf rf N sp ord b
 | .cond _ a b => codeOk4 P pf rf N sp ord a && codeOk4 P pf rf N sp ord b
 | .block _ b => codeOk4 P pf rf N sp ord b
 | .loop b => codeOk4 P pf rf N sp ord b
 | _ => true
section
variable {P : Program} {N N0 : Nat} {w0 : World} {g0 : Gh} {pf rf : List FuncId} {sp : List (Nat × (List Nat × List Nat × List Nat))} {ord : List (Nat × List Nat)}
theorem eraseC4_ns {c : Code} (h : hasSp sp c = false) : eraseC4 sp ord c = .of (eraseC3 ord c) := by
 unfold eraseC4
 rw [h]
 rfl
theorem eraseC4_seq {a b : Code} (h : hasSp sp (.seq a b) = true) : eraseC4 sp ord (.seq a b) = .seq (eraseC4 sp ord a) (eraseC4 sp ord b) := by
 rw [eraseC4, h]
 rfl
theorem eraseC4_cond {x : Operand} {a b : Code} (h : hasSp sp (.cond x a b) = true) : eraseC4 sp ord (.cond x a b) = .cond x (eraseC4 sp ord a) (eraseC4 sp ord b) := by
 rw [eraseC4, h]
 rfl
theorem eraseC4_block {id : Nat} {b : Code} (h : hasSp sp (.block id b) = true) : eraseC4 sp ord (.block id b) = .block id (eraseC4 sp ord b) := by
 rw [eraseC4, h]
 rfl
theorem eraseC4_loop {b : Code} (h : hasSp sp (.loop b) = true) : eraseC4 sp ord (.loop b) = .loop (eraseC4 sp ord b) := by
 rw [eraseC4, h]
 rfl
theorem codeOk4_ns : ∀ {c : Code}, hasSp sp c = false → codeOk4 P pf rf N sp ord c = true → codeOk3 P pf rf N ord c = true := by
 intro c
 induction c with
 | region id ops d =>
  intro h hk
  simp only [hasSp, Option.isSome_eq_false_iff, Option.isNone_iff_eq_none] at h
  simpa only [codeOk4, h] using hk
 | seq a b iha ihb =>
  intro h hk
  simp only [hasSp, Bool.or_eq_false_iff] at h
  simp only [codeOk4, codeOk3, Bool.and_eq_true] at hk ⊢
  exact ⟨iha h.1 hk.1, ihb h.2 hk.2⟩
 | cond x a b iha ihb =>
  intro h hk
  simp only [hasSp, Bool.or_eq_false_iff] at h
  simp only [codeOk4, codeOk3, Bool.and_eq_true] at hk ⊢
  exact ⟨iha h.1 hk.1, ihb h.2 hk.2⟩
 | block id b ih => intro h hk; exact ih (by simpa only [hasSp] using h) (by simpa only [codeOk4] using hk)
 | loop b ih => intro h hk; exact ih (by simpa only [hasSp] using h) (by simpa only [codeOk4] using hk)
 | _ => intro _ _; rfl
theorem aw4_of {ro : Option Nat} (hm : P.follows .mixedOrders = true) (hN0 : g0.nid = N0) {c : Code} {Q : AX → Env → Store → Prop} {e : Env} {S : Store} {a : Act} {w : World} (hns : hasSp sp c = false) (hok : codeOk4 P pf rf N sp ord c = true) (hc : Conc N w0 g0 e S a w) (h : AX4 P pf rf N0 (eraseC4 sp ord c) Q e S) : c.wpIn (wR ro) 0 P (toQ N w0 g0 Q) a w := by
 rw [eraseC4_ns hns] at h
 exact AW_ok3 hm hN0 c Q e S a w (codeOk4_ns hns hok) hc h
theorem does_loadp {o : Oper} {t : TypeId} {x : Operand} {e : Env} {S : Store} {v : AV} {Kp : List Nat} (ho : o.op = .load t x) (hv : aLoad (szOf P t) S (ev e x) = some v) (hp : plcOk Kp o.op e = true) : ∃ k ∈ Kp, ∀ S2 : Store, S2[k]? = S[k]? → Does P o e S2 v S2 := by
 rw [ho] at hp
 unfold plcOk at hp
 simp only at hp
 split at hp
 ·rename_i k off hx
  refine ⟨k, by simpa using hp, fun S2 h2 => does_load ho ?_⟩
  rw [hx] at hv ⊢
  unfold aLoad at hv ⊢
  split at hv
  ·rename_i hz he
   cases he
   simp only [h2]
   exact hv
  ·rename_i he; cases he
  ·rename_i he; cases he
  ·cases hv
 ·rename_i u off hx
  obtain ⟨k, hk⟩ : ∃ k, k ∈ Kp := by
   cases Kp with
   | nil => cases hp
   | cons k _ => exact ⟨k, by simp⟩
  refine ⟨k, hk, fun S2 _ => does_load ho ?_⟩
  rw [hx] at hv ⊢
  cases hz : szOf P t with
  | none => rw [hz] at hv; cases hv
  | some z => rw [hz] at hv; exact hv
 ·cases hp
theorem wpL4_of_ARg4 {Kp lp wp : List Nat} {ops : Array Oper} {Q : Env → Store → Prop} : ∀ (l : List Oper) (e : Env) (S : Store), ARg4 P pf rf Kp lp wp (l.map (eraseO ops)) e S Q → wpL4 P Kp lp wp (clsOf P pf rf) ops Q l e S
 | [], e, S, h => h
 | o :: rest, e, S, h => by
  simp only [List.map_cons, ARg4] at h
  obtain ⟨hgd, h⟩ := h
  have hg : aWant ops o e = some true := by
   unfold eraseO at hgd
   unfold aWant
   cases hx : o.guard with
   | none => rfl
   | some p => obtain ⟨j, want⟩ := p; rw [hx] at hgd; cases hgd
  have hop : (eraseO ops o).op = o.op := rfl
  have hds : (eraseO ops o).dst = o.dst := rfl
  rw [hop, hds] at h
  unfold kdA at h
  unfold wpL4
  simp only [hg]
  unfold XStep4
  have one : ∀ K : Env → Store → Prop, ARg P pf rf [⟨o.dst, o.op, none⟩] e S K → AOp P pf rf o.op e S (fun v S' => K (put e o.dst v) S') := fun K h => by
   rw [ARg] at h
   obtain ⟨b, hb, h⟩ := bindO_spec h
   cases hb
   have h := h.1 rfl
   have e1 : (fun v S' => ARg P pf rf [] (put e o.dst v) S' K) = fun v S' => K (put e o.dst v) S' := by funext v S'; rw [ARg]
   rw [e1] at h
   exact h
  cases hk : kdO lp wp o.dst o.op with
  | rp =>
   rw [hk] at h
   simp only at h ⊢
   have h := one _ h
   cases hl : o.op with
   | load t x =>
    rw [hl] at h
    unfold AOp at h
    simp only at h
    obtain ⟨v, hv, h1, h2⟩ := bindO_spec h
    rw [← hl] at h1
    exact ⟨v, S, ⟨rfl, does_loadp hl hv h1⟩, wpL4_of_ARg4 rest _ _ h2⟩
   | _ =>
    exfalso
    obtain ⟨v, S', _, h2, _⟩ := AOp_ok h
    unfold plcOk at h2
    rw [hl] at h2
    cases h2
  | wr =>
   rw [hk] at h
   simp only at h ⊢
   obtain ⟨v, S', ⟨h1, h2⟩, h3, h4⟩ := h
   refine ⟨v, S', ⟨h1, h3, fun R => ?_⟩, wpL4_of_ARg4 rest _ _ h4⟩
   split at h2
   ·rename_i c ho
    split at h2
    ·rename_i f hf
     refine does_call (fa := []) (ca := []) ho hf rfl ?_
     simp only [List.nil_append, List.append_nil]
     exact (h2 R).weak
    ·exact h2.elim
   ·exact h2.elim
  | al =>
   rw [hk] at h
   simp only at h ⊢
   cases hl : o.op with
   | alloc t =>
    rw [hl] at h
    simp only at h
    rw [← hl] at h
    have h := one _ h
    rw [hl] at h
    unfold AOp at h
    simp only at h
    obtain ⟨z, hz, h1, h2⟩ := bindO_spec h
    refine ⟨_, _, ⟨⟨_, rfl, fun S2 h3 => ?_⟩, h1⟩, wpL4_of_ARg4 rest _ _ h2⟩
    rw [← h3]
    exact does_alloc hl hz
   | call c =>
    rw [hl] at h
    simp only at h
    obtain ⟨v, z, h1, h2, h3⟩ := h
    unfold AppF at h1
    simp only at h1
    split at h1
    ·rename_i hb
     split at h1
     ·rename_i x y t u hargs hts
      have hc : c = { callee := .builtin .append, args := #[x, y], argTypes := #[t, u] } := by
       cases c with | mk ce ar at_ =>
       simp only at hb hargs hts
       rw [hb]
       congr 1
       ·exact Array.ext' hargs
       ·exact Array.ext' hts
      refine ⟨_, _, ⟨⟨_, rfl, fun S2 h4 => does_appendW (by rw [hl, hc]) ?_⟩, h2⟩, wpL4_of_ARg4 rest _ _ h3⟩
      unfold aAppW at h1 ⊢
      rw [h4]
      exact h1
     ·cases h1
    ·cases h1
   | _ =>
    exfalso
    unfold kdO at hk
    rw [hl] at hk
    split at hk
    ·split at hk
     ·cases hk
     ·split at hk <;> cases hk
    ·cases hk
  | ot =>
   rw [hk] at h
   simp only at h ⊢
   have h := one _ h
   obtain ⟨v, S', h1, h3, h4⟩ := AOp_ok h
   exact ⟨v, S', ⟨h1, h3⟩, wpL4_of_ARg4 rest _ _ h4⟩
theorem wpList_of_L4 {ro : Option Nat} {Kp lp wp : List Nat} {cls : Op → Cls} {ops : Array Oper} {Q : Env → Store → Prop} {Q' : Exit → Act → World → Prop} (hds : dstsOk N ops = true) (hQ : ∀ e S a w, Conc N w0 g0 e S a w → Q e S → Q' .normal a w) :
  ∀ (l : List Oper), (∀ o ∈ l, ∃ i : Nat, ops[i]? = some o) → ∀ (e : Env) (S : Store) (a : Act) (w : World), Conc N w0 g0 e S a w → wpL4 P Kp lp wp cls ops Q l e S → wpListIn (wR ro) 0 P ops Q' l a w
 | [], _, e, S, a, w, hc, h => hQ e S a w hc h
 | o :: l, hl, e, S, a, w, hc, h => by
  obtain ⟨i, hi⟩ := hl o (by simp)
  have hd := dstsOk_spec hds hi
  have her : ∃ g, ERel w g e a := by obtain ⟨_, _, g, _, h4, _⟩ := hc; exact ⟨g, h4⟩
  obtain ⟨g, her⟩ := her
  unfold wpL4 at h
  unfold wpListIn
  split at h
  ·rename_i hw
   rw [aWant_ok her hw]
   obtain ⟨v, S', h1, h2⟩ := h
   simp only [if_true]
   exact hc.does hd h1.does (fun a' w' hc' => wpList_of_L4 hds hQ l (fun o ho => hl o (by simp [ho])) _ _ a' w' hc' h2) ro
  ·rename_i hw
   rw [aWant_ok her hw]
   simp only [Bool.false_eq_true, if_false]
   exact ⟨fun _ _ => trivial, wpList_of_L4 hds hQ l (fun o ho => hl o (by simp [ho])) _ _ _ w (hc.skip hd) h⟩
  ·exact h.elim
theorem AW_ok4 {ro : Option Nat} (hm : P.follows .mixedOrders = true) (hN0 : g0.nid = N0) : ∀ (c : Code) (Q : AX → Env → Store → Prop) (e : Env) (S : Store) (a : Act) (w : World), codeOk4 P pf rf N sp ord c = true → Conc N w0 g0 e S a w → AX4 P pf rf N0 (eraseC4 sp ord c) Q e S → c.wpIn (wR ro) 0 P (toQ N w0 g0 Q) a w := by
 intro c
 induction c with
 | region id ops draw =>
  intro Q e S a w hok hc h
  cases hns : hasSp sp (.region id ops draw) with
  | false => exact aw4_of hm hN0 hns hok hc h
  | true =>
   simp only [hasSp] at hns
   obtain ⟨⟨Kp, lp, wp⟩, hs⟩ := Option.isSome_iff_exists.1 hns
   have hQ : ∀ e S a w, Conc N w0 g0 e S a w → Q .norm e S → toQ N w0 g0 Q .normal a w := fun e S a w hc hq => ⟨e, S, hc, hq⟩
   simp only [codeOk4, hs] at hok
   simp only [eraseC4, hasSp, hs, Option.isSome_some, Bool.not_true, Bool.false_eq_true, if_false] at h
   by_cases hem : (lp.isEmpty && wp.isEmpty) = true
   ·rw [if_pos hem] at h hok
    simp only [AX4] at h
    obtain ⟨e1, S1, hwk, h⟩ := h
    exact AW_ok3 hm hN0 _ Q e1 S1 a w hok (hwk N w0 g0 a w hN0 hc) h
   ·rw [if_neg hem] at h hok
    simp only [AX4] at h
    obtain ⟨e1, S1, hwk, h⟩ := h
    have hc1 := hwk N w0 g0 a w hN0 hc
    simp only [Bool.and_eq_true] at hok
    cases draw with
    | true =>
     simp only [if_true, Bool.not_true, Bool.false_or] at h hok
     exact region_draws34 hm hok.2 hok.1 hQ hc1 (wpL4_of_ARg4 _ e1 S1 h)
    | false =>
     simp only [Bool.false_eq_true, if_false] at h
     refine wpIn_region_list (wpList_of_L4 (cls := clsOf P pf rf) hok.1 hQ ops.toList (fun o ho => ?_) e1 S1 a w hc1 (wpL4_of_ARg4 _ e1 S1 h))
     obtain ⟨i, hi⟩ := List.mem_iff_getElem?.1 ho
     exact ⟨i, by simpa using hi⟩
 | seq x y ihx ihy =>
  intro Q e S a w hok hc h
  cases hns : hasSp sp (.seq x y) with
  | false => exact aw4_of hm hN0 hns hok hc h
  | true =>
   rw [eraseC4_seq hns] at h
   simp only [codeOk4, Bool.and_eq_true] at hok
   simp only [AX4] at h
   refine wpIn_seq (Go.wpIn_mono (ihx _ e S a w hok.1 hc h) ?_)
   intro ex a' w' hq
   cases ex with
   | normal => obtain ⟨e', S', hc', h'⟩ := hq; exact ihy Q e' S' a' w' hok.2 hc' h'
   | exit id => exact hq
   | ret => exact hq
   | _ => exact hq.elim
 | cond c x y ihx ihy =>
  intro Q e S a w hok hc h
  cases hns : hasSp sp (.cond c x y) with
  | false => exact aw4_of hm hN0 hns hok hc h
  | true =>
   rw [eraseC4_cond hns] at h
   simp only [codeOk4, Bool.and_eq_true] at hok
   simp only [AX4] at h
   split at h
   ·rename_i b hb
    have hcb : a.eval c = .bool b := by
     obtain ⟨_, _, g, _, h4, _⟩ := hc
     have := ev_ok h4 c
     rw [hb] at this
     cases hv : a.eval c <;> rw [hv] at this <;> cases this
     rfl
    refine wpIn_cond_split hcb (fun ht => ihx Q e S a w hok.1 hc (h.1 ht)) (fun hf => ihy Q e S a w hok.2 hc (h.2 hf))
   ·exact h.elim
 | block id c ih =>
  intro Q e S a w hok hc h
  cases hns : hasSp sp (.block id c) with
  | false => exact aw4_of hm hN0 hns hok hc h
  | true =>
   rw [eraseC4_block hns] at h
   simp only [AX4] at h
   refine wpIn_block (Go.wpIn_mono (ih _ e S a w hok hc h) ?_)
   intro ex a' w' hq
   cases ex with
   | normal => exact hq
   | exit i =>
    obtain ⟨e', S', hc', h'⟩ := hq
    simp only [blockQ] at h'
    simp only [Exit.inBlock]
    by_cases hi : i = id
    ·rw [if_pos hi] at h' ⊢; exact ⟨e', S', hc', h'⟩
    ·rw [if_neg hi] at h' ⊢; exact ⟨e', S', hc', h'⟩
   | ret => exact hq
   | _ => exact hq.elim
 | loop c ih =>
  intro Q e S a w hok hc h
  cases hns : hasSp sp (.loop c) with
  | false => exact aw4_of hm hN0 hns hok hc h
  | true =>
   rw [eraseC4_loop hns] at h
   simp only [AX4] at h
   obtain ⟨I, ⟨n, e', S', hwk, hI⟩, hround⟩ := h
   refine wpIn_loop_ghost (fun n a w => ∃ e S, Conc N w0 g0 e S a w ∧ I n e S) n ⟨e', S', hwk N w0 g0 a w hN0 hc, hI⟩ ?_
   rintro n a w ⟨e, S, hc, hI⟩
   refine Go.wpIn_mono (ih _ e S a w hok hc (hround n e S hI)) ?_
   intro ex a' w' hq
   cases ex with
   | normal =>
    obtain ⟨e1, S1, hc1, n', e2, S2, hlt, hwk', hI'⟩ := hq
    exact ⟨n', hlt, e2, S2, hwk' N w0 g0 a' w' hN0 hc1, hI'⟩
   | exit i => exact hq
   | ret => exact hq
   | _ => exact hq.elim
 | _ =>
  intro Q e S a w hok hc h
  exact aw4_of hm hN0 rfl hok hc h
end
section
variable {P : Program}
theorem AC.enter4 {f : FuncId} {fn : Func} {c : Code} {args : List AV} {S S' : Store} {v : AV} (pf rf : List FuncId) (sp : List (Nat × (List Nat × List Nat × List Nat))) (ord : List (Nat × List Nat)) (hf : P.funcs[f]? = some fn) (hb : fn.body = some c) (hname : fn.name ≠ "runtime.NumGoroutine") (hm : P.follows .mixedOrders = true)
  (hn : args.length ≤ fn.ntmps) (hok : codeOk4 P pf rf fn.ntmps sp ord c = true) (h : AX4 P pf rf S.length (eraseC4 sp ord c) (finQ P fn.results.toList S.length v S') (argEnv args) S) : AC P f args S v S' := by
 exact AC.of_wp hf hb hname hn fun w g a hg hc => AW_ok4 hm hg c _ (argEnv args) S a w hok hc h
end
section
variable (P : Program) (pf rf : List FuncId) (N0 : Nat) (Q : AX → Env → Store → Prop) (e : Env) (S : Store) (K : Env → Store → Prop)
theorem AX4_of (c : CC) : AX4 P pf rf N0 (.of c) Q e S = AW P pf rf N0 c Q e S := rfl
theorem AX4_seq (a b : CD) : AX4 P pf rf N0 (.seq a b) Q e S = AX4 P pf rf N0 a (thenQ Q (AX4 P pf rf N0 b Q)) e S := rfl
theorem AX4_weak (c : CD) : AX4 P pf rf N0 (.weak c) Q e S = WkP N0 e S (AX4 P pf rf N0 c Q) := rfl
theorem AX4_spec (Kp lp wp : List Nat) (l : List AO) : AX4 P pf rf N0 (.spec Kp lp wp l) Q e S = ARg4 P pf rf Kp lp wp l e S (Q .norm) := rfl
def AXs (c : CD) : Prop := AX4 P pf rf N0 c Q e S
theorem AX4_cond (c : Operand) (t f : CD) : AX4 P pf rf N0 (.cond c t f) Q e S = condP (ev e c) (AXs P pf rf N0 Q e S t) (AXs P pf rf N0 Q e S f) := rfl
theorem AXs_eq (c : CD) : AXs P pf rf N0 Q e S c = AX4 P pf rf N0 c Q e S := rfl
theorem AX4_block (id : Nat) (b : CD) : AX4 P pf rf N0 (.block id b) Q e S = AX4 P pf rf N0 b (blockQ id Q) e S := rfl
theorem AX4_loop (b : CD) : AX4 P pf rf N0 (.loop b) Q e S = ALoop N0 (AX4 P pf rf N0 b) Q e S := rfl
theorem ARg4_nil (Kp lp wp : List Nat) : ARg4 P pf rf Kp lp wp [] e S K = K e S := rfl
end
def sideR (P : Program) (pf rf : List FuncId) (K : Env → Store → Prop) (Kp lp wp : List Nat) (op : Op) (rest : List AO) (e : Env) (e' : Env) (S' : Store) : Prop := plcOk Kp op e = true ∧ ARg4 P pf rf Kp lp wp rest e' S' K
def sideK (P : Program) (pf rf : List FuncId) (K : Env → Store → Prop) (Kp lp wp : List Nat) (rest : List AO) (S : Store) (e' : Env) (S' : Store) : Prop := keeps Kp S S' ∧ ARg4 P pf rf Kp lp wp rest e' S' K
section
variable {P : Program} {pf rf : List FuncId} {e e' : Env} {S S' : Store} {K : Env → Store → Prop} {Kp lp wp : List Nat} {rest : List AO}
theorem a4r {d : Option Nat} {op : Op} (h : ARg P pf rf [⟨d, op, none⟩] e S (sideR P pf rf K Kp lp wp op rest e)) (hk : kdA lp wp d op = .rp := by rfl) : ARg4 P pf rf Kp lp wp (⟨d, op, none⟩ :: rest) e S K := by
 refine ⟨rfl, ?_⟩
 show match kdA lp wp d op with
  | .rp => _
  | .ap => _
  | .wr => _
  | _ => _
 rw [hk]
 exact h
theorem a4 {d : Option Nat} {op : Op} (h : ARg P pf rf [⟨d, op, none⟩] e S (sideK P pf rf K Kp lp wp rest S)) (hk : kdA lp wp d op = .ot := by rfl) : ARg4 P pf rf Kp lp wp (⟨d, op, none⟩ :: rest) e S K := by
 refine ⟨rfl, ?_⟩
 show match kdA lp wp d op with
  | .rp => _
  | .ap => _
  | .wr => _
  | _ => _
 rw [hk]
 exact h
theorem p4 {d : Option Nat} {op : Op} {v : AV} {z : SObj} (h : AppF P op e S = some (v, z)) (h' : ARg4 P pf rf Kp lp wp rest (put e d v) (S ++ [z]) K) (hk : kdA lp wp d op = .ap := by rfl) (hk' : keeps Kp S (S ++ [z]) := by (intro k hk; simp only [List.mem_cons, List.not_mem_nil, or_false] at hk; first | (subst hk; rfl) | (rcases hk with rfl | rfl <;> rfl) | (rcases hk with rfl | rfl | rfl <;> rfl))) : ARg4 P pf rf Kp lp wp (⟨d, op, none⟩ :: rest) e S K := by
 refine ⟨rfl, ?_⟩
 show match kdA lp wp d op with
  | .rp => _
  | .ap => _
  | .wr => _
  | _ => _
 rw [hk]
 exact ⟨v, z, h, hk', h'⟩
theorem k4 (h : ARg4 P pf rf Kp lp wp rest e' S' K) (hk : keeps Kp S S' := by (intro k hk; simp only [List.mem_cons, List.not_mem_nil, or_false] at hk; first | (subst hk; rfl) | (rcases hk with rfl | rfl <;> rfl) | (rcases hk with rfl | rfl | rfl <;> rfl))) : sideK P pf rf K Kp lp wp rest S e' S' := ⟨hk, h⟩
theorem k4r {op : Op} (h : ARg4 P pf rf Kp lp wp rest e' S' K) (hk : plcOk Kp op e = true := by rfl) : sideR P pf rf K Kp lp wp op rest e e' S' := ⟨hk, h⟩
theorem w4 {d : Option Nat} {c : Call} {f : FuncId} {args : List AV} {o o' : SObj} {v : AV} (l : Nat) (h : AC P f (.ptr 0 0 :: args) [o] v [o']) (h' : ARg4 P pf rf Kp lp wp rest (put e d v) (S.set l o') K) (hf : c.callee = .value (.func f) := by rfl) (hw : kdA lp wp d (.call c) = .wr := by rfl)
  (ho : o.ok 0 = true := by rfl) (ho' : o'.ok 0 = true := by rfl) (ha : args.all (AV.ok 0) = true := by rfl) (hv : v.ok 0 = true := by rfl) (hT : S[l]? = some o := by rfl) (hg : (c.args.toList.map (ev e)).map AV.wk = .ptr l 0 :: args := by rfl) (hk : keeps Kp S (S.set l o') := by (intro k hk; simp only [List.mem_cons, List.not_mem_nil, or_false] at hk; first | (subst hk; rfl) | (rcases hk with rfl | rfl <;> rfl) | (rcases hk with rfl | rfl | rfl <;> rfl))) :
  ARg4 P pf rf Kp lp wp (⟨d, .call c, none⟩ :: rest) e S K := by
 refine ⟨rfl, ?_⟩
 show match kdA lp wp d (.call c) with
  | .rp => _
  | .ap => _
  | .wr => ∃ v S', CallF P (.call c) e S v S' ∧ keeps Kp S S' ∧ ARg4 P pf rf Kp lp wp rest (put e d v) S' K
  | _ => _
 rw [hw]
 refine ⟨v, S.set l o', ⟨by simp, ?_⟩, hk, h'⟩
 simp only [hf]
 intro R
 rw [hg]
 have := h.here l (S ++ R) ho ho' ha hv (get_app hT R)
 rw [List.set_append_left _ _ (List.getElem?_eq_some_iff.1 hT).1] at this
 exact this
end
set_option maxRecDepth 100000
theorem run4 {A B : Prop} (h : B) (e : A = B := by
  conv =>
   lhs
   (try simp only [AWs_eq, ARgs_eq, AOps_eq, AXs_eq, iteP_true, iteP_false])
   (try simp -implicitDefEqProofs (maxSteps := 4000000) (disch := (first | omega | (simp only [List.length_append, List.length_cons, List.length_map, List.length_nil, List.length_take, List.length_drop]; omega))) only [↓AX4_of, ↓AX4_seq, ↓AX4_spec, ↓AX4_weak, ↓AX4_cond, ↓AX4_block, ↓AX4_loop, ↓ARg4_nil, ↓zpre, zpost, cst1, ↓reduceIte, Nat.reduceEqDiff, Nat.reduceAdd, Nat.reduceLT, Nat.reduceLeDiff, Nat.reduceMul, Nat.reduceSub, Int.reduceToNat, Int.reduceAdd, Int.reduceSub, Int.reduceMul, Int.reduceNeg, Int.reduceLE, Int.reduceLT, Int.reduceEq, Int.reduceBEq, Int.reduceBNe, Nat.reduceBEq, Nat.reduceBNe, aBin, aEq, aEqF, aNilEq, aInt, aStr, aUn, aConv, aNil, aFldAddr, aFld, aIdxAddr, aIdx, aBui, aLoad, aStore, aLits, aLit, aMake, aMakeW, aMapSet, aLook, kfind, keq, kok, lookOut, aMk, aRange, aNext, aBytes, aApp, srcOf, aSlice, aBound, modeCut, apart, aFill, aval, aGd, zobj, zfr, ACall, AV.wk, AV.wk2, AV.wk1, AV.cells, AV.solid, AV.ro, AV.ro1, ← List.map_take, ← List.map_drop, reduceCtorEq, Option.isNone_some, Option.isSome_none, tf0, tf1, tf2, tf3, tf4, tf5, tf6, tf7, tf8, tf9, tf10, tf11, tf12, tf13, tf14, tf15, tf16, tf17, tf18, tf19, tf20, tf21, tf22, tf23, tf24, tf25, tf26, tf27, tf28, tf29, tf30, tf31, tf32, tf33, tf34])
   (try simp only [iteP_true, iteP_false])) : A := e ▸ h
theorem runf4 {F A B : Prop} (f : F) (h : B) (e : F → A = B := by
  intro f
  conv =>
   lhs
   (try simp only [AWs_eq, ARgs_eq, AOps_eq, AXs_eq, iteP_true, iteP_false])
   (try simp -implicitDefEqProofs (maxSteps := 4000000) (disch := (first | omega | (simp only [List.length_append, List.length_cons, List.length_map, List.length_nil, List.length_take, List.length_drop]; omega))) only [↓AX4_of, ↓AX4_seq, ↓AX4_spec, ↓AX4_weak, ↓AX4_cond, ↓AX4_block, ↓AX4_loop, ↓ARg4_nil, ↓zpre, zpost, cst1, ↓reduceIte, Nat.reduceEqDiff, Nat.reduceAdd, Nat.reduceLT, Nat.reduceLeDiff, Nat.reduceMul, Nat.reduceSub, Int.reduceToNat, Int.reduceAdd, Int.reduceSub, Int.reduceMul, Int.reduceNeg, Int.reduceLE, Int.reduceLT, Int.reduceEq, Int.reduceBEq, Int.reduceBNe, Nat.reduceBEq, Nat.reduceBNe, aBin, aEq, aEqF, aNilEq, aInt, aStr, aUn, aConv, aNil, aFldAddr, aFld, aIdxAddr, aIdx, aBui, aLoad, aStore, aLits, aLit, aMake, aMakeW, aMapSet, aLook, kfind, keq, kok, lookOut, aMk, aRange, aNext, aBytes, aApp, srcOf, aSlice, aBound, modeCut, apart, aFill, aval, aGd, zobj, zfr, ACall, AV.wk, AV.wk2, AV.wk1, AV.cells, AV.solid, AV.ro, AV.ro1, ← List.map_take, ← List.map_drop, reduceCtorEq, Option.isNone_some, Option.isSome_none, tf0, tf1, tf2, tf3, tf4, tf5, tf6, tf7, tf8, tf9, tf10, tf11, tf12, tf13, tf14, tf15, tf16, tf17, tf18, tf19, tf20, tf21, tf22, tf23, tf24, tf25, tf26, tf27, tf28, tf29, tf30, tf31, tf32, tf33, tf34, f])
   (try simp only [iteP_true, iteP_false])) : A := e f ▸ h
end Go.Proofs.YtlefikdjhnaapaaGreatDoor.Pe
namespace Go.Proofs.YtlefikdjhnaapaaGreatDoor.Pe
open Go Go.RowKit
variable [Tab]
theorem WF.still {w : World} {g : Gh} {S : Store} (h : WF w g S) {l n : Nat} {o : SObj} {arr : Array Value} {T : TypeId} {fr : Nat × Nat} (hS : S[l]? = some o) (hown : g.own l (g.pl l)) (hG : g.G (g.pl l) = 0) (hh : w.heap[g.pl l]? = some (.cells arr T fr)) :
  WF w { g with G := fun x => if x = g.pl l then n else g.G x } (S.set l .dead) ∧ Evo w g w { g with G := fun x => if x = g.pl l then n else g.G x } := by
 have hlS := (List.getElem?_eq_some_iff.1 hS).1
 have hln : l < g.nid := by rw [h.nid]; exact hlS
 let g' : Gh := { g with G := fun x => if x = g.pl l then n else g.G x }
 have hne : ∀ b, 0 < g.G b → b ≠ g.pl l := fun b h e => by rw [e, hG] at h; exact absurd h (Nat.lt_irrefl 0)
 have hle : Le w g w g' := ⟨fun _ _ _ _ h => h, fun b o v hb _ => by
  show o < (if b = g.pl l then n else g.G b)
  rw [if_neg (hne b (by omega))]; exact hb, Nat.le_refl _, fun _ _ => ⟨rfl, .inl ⟨rfl, rfl, rfl⟩⟩, fun b me c hg hm => ⟨by
  show 0 < (if b = g.pl l then n else g.G b)
  rw [if_neg (hne b hg)]; exact hg, hm⟩⟩
 refine ⟨⟨by rw [List.length_set]; exact h.nid, fun k o hk => ?_, h.disj, h.lt, h.tab.le hle⟩, ⟨hle, rfl, rfl, rfl, Nat.le_refl _, fun _ _ _ => rfl, fun _ _ hk hb _ => ⟨hk, hb⟩, fun b _ hno => if_neg (fun e => hno l hln (by rw [e]; exact hown))⟩⟩
 by_cases hkl : k = l
 ·subst hkl; rw [List.getElem?_set_self hlS] at hk; cases hk; trivial
 ·rw [List.getElem?_set_ne (Ne.symm hkl)] at hk
  have hkn : k < g.nid := by rw [h.nid]; exact (List.getElem?_eq_some_iff.1 hk).1
  refine (h.obj k o hk).keep hle rfl rfl rfl rfl rfl (fun b hb' => ?_) (fun _ _ => rfl)
  exact if_neg (fun e => hkl (h.disj k l b hkn hln hb' (by rw [e]; exact hown)))
end Go.Proofs.YtlefikdjhnaapaaGreatDoor.Pe
end
section
namespace Go.Proofs.YtlefikdjhnaapaaGreatDoor.Pe
open Go Go.RowKit
variable [Tab]
def putE (e : Env) (ps : List Tmp) (vs : List AV) : Env := (ps.zip vs).foldl (fun e p => upd e p.1 p.2) e
theorem argEnv_envL {N t : Nat} (e : Env) (h : t < N) : argEnv (envL N e) t = e t := by
 simp [argEnv, envL, h]
theorem putE_nil (e : Env) (vs : List AV) : putE e [] vs = e := by simp [putE]
theorem putE_cons (e : Env) (p : Tmp) (ps : List Tmp) (v : AV) (vs : List AV) : putE e (p :: ps) (v :: vs) = putE (upd e p v) ps vs := rfl
theorem putE_rel {w : World} {g : Gh} : ∀ (q : List Tmp) (vs : List AV) (cs : List Value) (e : Env) (a : Act), vs.length = q.length → cs.length = q.length → (∀ (j : Nat) u x, vs[j]? = some u → cs[j]? = some x → Rel w g u x) → (∀ p ∈ q, p < a.tmps.size) → ERel w g e a →
  ERel w g (putE e q vs) { a with tmps := (q.zip cs).foldl (fun t p => t.setIfInBounds p.1 p.2) a.tmps } ∧ ((q.zip cs).foldl (fun t p => t.setIfInBounds p.1 p.2) a.tmps).size = a.tmps.size
 | [], vs, cs, e, a, _, _, _, _, he => ⟨by rw [putE_nil]; exact he, rfl⟩
 | p :: q, [], cs, e, a, h, _, _, _, _ => by simp at h
 | p :: q, v :: vs, [], e, a, _, h, _, _, _ => by simp at h
 | p :: q, v :: vs, c :: cs, e, a, h1, h2, h3, h4, he => by
  have hp : ERel w g (Pe.put e (some p) v) (a.put (some p) c) := he.put (fun x hx => by cases hx; exact h4 p (by simp)) (h3 0 v c rfl rfl)
  have := putE_rel q vs cs (upd e p v) (a.put (some p) c) (by simpa using h1) (by simpa using h2) (fun j u x hu hx => h3 (j + 1) u x (by simpa using hu) (by simpa using hx)) (fun x hx => by simpa [Act.put] using h4 x (by simp [hx])) hp
  refine ⟨this.1, ?_⟩
  have h5 := this.2
  simp only [Act.put, Array.size_setIfInBounds] at h5
  exact h5
section
variable {P : Program} {pf rf : List FuncId}
def bdyQ (N0 l : Nat) (o : LoopState → SObj) (S' : Store) : AX → Env → Store → Prop
 | .norm => fun e S => ∃ e1 S1 κ, Weak N0 e S e1 S1 ∧ S1[l]? = some (o .busy) ∧ SubOk κ (S1.set l (o .ready)) S' ∧ κ.take N0 = List.range N0
 | _ => fun _ _ => False
def asnQ (l : Nat) (o : LoopState → SObj) (B : Env → Store → Prop) : AX → Env → Store → Prop
 | .norm => fun e S => S[l]? = some (o .ready) ∧ B e (S.set l (o .busy))
 | _ => fun _ _ => False
theorem loop_turn {w : World} {g : Gh} {S : Store} {l b D : Nat} {fn : FuncId} {es : List AV} {ps : Array Tmp} {asn bdy : Code} {st : LoopState} (hw : WF w g S) (hl : S[l]? = some (.loop b D fn es ps asn bdy st)) :
  ∃ tm, w.heap[b]? = some (.loop { state := st, pending := none, fn, tmps := tm, params := ps, assign := asn, body := bdy, defers := D }) ∧ tm.size = es.length ∧ (∀ (j : Nat) u x, es[j]? = some u → tm[j]? = some x → Rel w g u x) ∧
   ∀ st', WF (w.putObj b (.loop { state := st', pending := none, fn, tmps := tm, params := ps, assign := asn, body := bdy, defers := D })) g (S.set l (.loop b D fn es ps asn bdy st')) ∧
    Evo w g (w.putObj b (.loop { state := st', pending := none, fn, tmps := tm, params := ps, assign := asn, body := bdy, defers := D })) g := by
 obtain ⟨b1, b2, b3, rfl, tm, b5, b6, b7⟩ := hw.obj _ _ hl
 refine ⟨tm, b5, b6, b7, fun st' => ?_⟩
 refine hw.put (o := .loop (g.pl l) D fn es ps asn bdy st') (List.getElem?_eq_some_iff.1 hl).1 b2 b3 ?_
 have hle := Le.setObj (w := w) b3 (.loop { state := st', pending := none, fn, tmps := tm, params := ps, assign := asn, body := bdy, defers := D })
 have hlt := (Array.getElem?_eq_some_iff.1 b5).1
 exact ⟨b1, b2, b3, rfl, tm, by simp [hlt], b6, fun j u x hu hx => (b7 j u x hu hx).le hle⟩
theorem AYB.of_wp {b D : Nat} {fn : FuncId} {es args : List AV} {ps : Array Tmp} {asn bdy : Code} {S S' : Store} (pf rf : List FuncId) (l : Nat) (hl : S[l]? = some (.loop b D fn es ps asn bdy .ready)) (hlen : args.length = ps.size) (hps : ∀ p ∈ ps.toList, p < es.length)
  (hm : P.follows .mixedOrders = true) (hoa : codeOk P pf rf es.length asn = true) (hra : noRF asn = true) (B : Env → Store → Prop)
  (hB : ∀ (w0 : World) (g0 : Gh) (e : Env) (T : Store) (a : Act) (w : World), g0.nid = S.length → Conc es.length w0 g0 e T a w → B e T → bdy.wpIn (wR (some b)) 0 P (toQ es.length w0 g0 (bdyQ S.length l (.loop b D fn es ps asn bdy) S')) a w)
  (h : AW P pf rf S.length (eraseC asn) (asnQ l (.loop b D fn es ps asn bdy) B) (putE (argEnv es) ps.toList args) S) : AYB P b args S (.bo true) S' := by
 intro w g cargs hw hargs
 obtain ⟨tm, b5, b6, b7, _⟩ := loop_turn hw hl
 have hsz : cargs.size = ps.size := by rw [hargs.1, hlen]
 have hfold : (ps.zip cargs).foldl (fun tmps (t, a) => tmps.setIfInBounds t a) tm = (ps.toList.zip cargs.toList).foldl (fun t p => t.setIfInBounds p.1 p.2) tm := by
  rw [← Array.foldl_toList, Array.toList_zip]
 refine ⟨fn, _, asn, bdy, run_yield b5 hsz, ?_⟩
 have hE0 : ERel w g (argEnv es) { tmps := tm, defers := [] } := fun t => by
  show Rel w g (es.getD t .junk) (tm.getD t undef)
  rw [List.getD_eq_getElem?_getD]
  cases ht : es[t]? with
  | none => exact .junk _ _
  | some u =>
   have hlt : t < tm.size := by rw [b6]; exact (List.getElem?_eq_some_iff.1 ht).1
   have h1 : tm[t]? = some tm[t] := Array.getElem?_eq_getElem hlt
   rw [Array.getD_eq_getD_getElem?, h1]
   exact b7 t u _ ht h1
 obtain ⟨hE1, hsz1⟩ := putE_rel ps.toList args cargs.toList (argEnv es) { tmps := tm, defers := [] } (by simpa using hlen) (by simpa using hsz) (fun j u x hu hx => hargs.2 j u x hu (by simpa using hx)) (fun p hp => by show p < tm.size; rw [b6]; exact hps p hp) hE0
 refine roundIn_of_wpIn (F := Fence.wide) (n := 0) trivial ?_
 simp only at hE1 hsz1
 rw [← hfold] at hE1 hsz1
 have hc : Conc es.length w g (putE (argEnv es) ps.toList args) S { tmps := (ps.zip cargs).foldl (fun tmps (t, a) => tmps.setIfInBounds t a) tm, defers := [] } w := ⟨hsz1.trans b6, trivial, g, hw, hE1, .none (Evo.refl w g)⟩
 have ha := AW_ok (some b) (.inr hra) hm hw.nid _ _ S _ w hoa hc h
 refine Go.wpIn_mono (F := Fence.wide.inRound b) ha ?_
 intro ex a1 w1 hq
 cases ex with
 | normal =>
  obtain ⟨e1, S1, ⟨c1, _, g1, c2, c3, c4⟩, hl1, hbd⟩ := hq
  obtain ⟨tm1, d5, _, _, d8⟩ := loop_turn c2 hl1
  obtain ⟨d9, d10⟩ := d8 .busy
  refine ⟨_, run_beginRound d5 rfl, ?_⟩
  have hc1 : Conc es.length w g e1 (S1.set l (.loop b D fn es ps asn bdy .busy)) a1 (w1.putObj b (.loop { state := .busy, pending := none, fn, tmps := tm1, params := ps, assign := asn, body := bdy, defers := D })) := ⟨c1, trivial, g1, d9, fun t => (c3 t).le d10.toLe, c4.trans d10⟩
  have hb := hB _ _ _ _ _ _ hw.nid hc1 hbd
  refine Go.wpIn_mono (F := Fence.wide.inRound b) hb ?_
  intro ex2 a2 w2 hq2
  cases ex2 with
  | normal =>
   obtain ⟨e2, S2, hc2, e3, S3, κ, k0, k1, k2, k3⟩ := hq2
   obtain ⟨_, _, g3, m1, m2, m3⟩ := k0 es.length w g a2 w2 hw.nid hc2
   obtain ⟨tm3, n1, _, _, n4⟩ := loop_turn m1 k1
   obtain ⟨n5, n6⟩ := n4 .ready
   refine ⟨_, _, run_endRound none n1, .bool true, g3.sub κ, rfl, n5.sub k2, .bo _ _, ?_⟩
   exact (m3.toEvo.trans n6).sub k2.nodup (k2.lt n5) (by rw [hw.nid]; exact k3)
  | exit i => obtain ⟨_, _, _, q⟩ := hq2; exact q.elim
  | ret => obtain ⟨_, _, _, q⟩ := hq2; exact q.elim
  | _ => exact hq2.elim
 | exit i => obtain ⟨_, _, _, q⟩ := hq; exact q.elim
 | ret => obtain ⟨_, _, _, q⟩ := hq; exact q.elim
 | _ => exact hq.elim
theorem AYB.enter {b D : Nat} {fn : FuncId} {es args : List AV} {ps : Array Tmp} {asn bdy : Code} {S S' : Store} (pf rf : List FuncId) (l : Nat) (hl : S[l]? = some (.loop b D fn es ps asn bdy .ready)) (hlen : args.length = ps.size) (hps : ∀ p ∈ ps.toList, p < es.length)
  (hm : P.follows .mixedOrders = true) (hoa : codeOk P pf rf es.length asn = true) (hob : codeOk P pf rf es.length bdy = true) (hra : noRF asn = true) (hrb : noRF bdy = true)
  (h : AW P pf rf S.length (eraseC asn) (asnQ l (.loop b D fn es ps asn bdy) (AW P pf rf S.length (eraseC bdy) (bdyQ S.length l (.loop b D fn es ps asn bdy) S'))) (putE (argEnv es) ps.toList args) S) : AYB P b args S (.bo true) S' :=
 AYB.of_wp pf rf l hl hlen hps hm hoa hra _ (fun w0 g0 e T a w hn hc hb => AW_ok (some b) (.inr hrb) hm hn _ _ _ _ _ hob hc hb) h
end
end Go.Proofs.YtlefikdjhnaapaaGreatDoor.Pe
end
section
namespace Go.Proofs.YtlefikdjhnaapaaGreatDoor.Pe
open Go Go.RowKit
variable [Tab] {P : Program}
theorem AYB.enter4 {b D : Nat} {fn : FuncId} {es args : List AV} {ps : Array Tmp} {asn bdy : Code} {S S' : Store} (pf rf : List FuncId) (sp : List (Nat × (List Nat × List Nat × List Nat))) (ord : List (Nat × List Nat)) (l : Nat) (hl : S[l]? = some (.loop b D fn es ps asn bdy .ready)) (hlen : args.length = ps.size) (hps : ∀ p ∈ ps.toList, p < es.length)
  (hm : P.follows .mixedOrders = true) (hoa : codeOk P pf rf es.length asn = true) (hob : codeOk4 P pf rf es.length sp ord bdy = true) (hra : noRF asn = true)
  (h : AW P pf rf S.length (eraseC asn) (asnQ l (.loop b D fn es ps asn bdy) (AX4 P pf rf S.length (eraseC4 sp ord bdy) (bdyQ S.length l (.loop b D fn es ps asn bdy) S'))) (putE (argEnv es) ps.toList args) S) : AYB P b args S (.bo true) S' :=
 AYB.of_wp pf rf l hl hlen hps hm hoa hra _ (fun w0 g0 e T a w hn hc hb => AW_ok4 hm hn _ _ _ _ _ _ hob hc hb) h
theorem Weak.reserveN [Tab] (N0 : Nat) {e : Env} {S : Store} (l i : Nat) {cs es : List AV} (hS : S[l]? = some (.cells cs)) (hi : cs[i]? = some (.sl .full es)) (ty : TypeId) (sz : Nat) : Weak N0 e S e (S.set l (.cells (cs.set i (.sl (.own S.length) es))) ++ [.buf es.length ty sz]) := by
 rintro N w0 g0 a w hn ⟨h1, h2, g, h3, h4, h5⟩
 obtain ⟨g', h6, h7, h8, h9, h10⟩ := h3.reserve es.length ty sz
 have hlS := (List.getElem?_eq_some_iff.1 hS).1
 have hic := (List.getElem?_eq_some_iff.1 hi).1
 have hn3 := h3.nid
 have hn6 := h6.nid
 rw [List.length_append, List.length_singleton] at hn6
 refine ⟨h1, h2, g', ⟨by rw [List.length_append, List.length_set, List.length_singleton]; exact hn6, fun k o hk => ?_, h6.disj, h6.lt, h6.tab⟩, fun t => (h4 t).le h7.toLe, h5.trans h7⟩
 by_cases hkl : k = l
 ·subst hkl
  rw [List.getElem?_append_left (by rw [List.length_set]; exact hlS), List.getElem?_set_self hlS] at hk
  cases hk
  obtain ⟨k1, k2, k3, arr, T, fr, k4, k5, k6, k7, k8⟩ := h6.obj k (.cells cs) (get_app hS _)
  refine ⟨k1, k2, k3, arr, T, fr, k4, k5, by rw [List.length_set]; exact k6, k7, fun j u v hu hv => ?_⟩
  by_cases hj : j = i
  ·subst hj
   rw [List.getElem?_set_self hic] at hu
   cases hu
   refine (k8 j _ v hi hv).own_full (by omega) ?_ ?_
   ·rw [← hn3]; exact h9
   ·rw [← hn3]; exact h10
  ·rw [List.getElem?_set_ne (Ne.symm hj)] at hu
   exact k8 j u v hu hv
 ·refine h6.obj k o ?_
  by_cases hkS : k < S.length
  ·rw [List.getElem?_append_left (by rw [List.length_set]; exact hkS), List.getElem?_set_ne (Ne.symm hkl)] at hk
   rw [List.getElem?_append_left hkS]
   exact hk
  ·rw [List.getElem?_append_right (by rw [List.length_set]; omega), List.length_set] at hk
   rw [List.getElem?_append_right (by omega)]
   exact hk
def Keep (E e : Env) : Prop := ∀ t, E t = e t ∨ E t = .junk
theorem Keep.nil (e : Env) : Keep (fun _ => .junk) e := fun _ => .inr rfl
theorem Keep.cons {E e : Env} (h : Keep E e) (t : Nat) (v : AV) (hv : e t = v) : Keep (upd E t v) e := fun u => by
 unfold upd
 by_cases hu : u = t
 ·rw [if_pos hu, hu]; exact .inl hv.symm
 ·rw [if_neg hu]; exact h u
theorem Weak.keep (N0 : Nat) {E e : Env} {S : Store} (h : Keep E e) : Weak N0 e S E S := by
 rintro N w0 g0 a w hn ⟨h1, h2, g, h3, h4, h5⟩
 refine ⟨h1, h2, g, h3, fun t => ?_, h5⟩
 rcases h t with e1 | e1 <;> rw [e1]
 ·exact h4 t
 ·exact .junk _ _
theorem Weak.trans2 {N0 : Nat} {e e1 e2 : Env} {S S1 S2 : Store} (h : Weak N0 e S e1 S1) (h' : Weak N0 e1 S1 e2 S2) : Weak N0 e S e2 S2 := fun N w0 g0 a w hn hc => h' N w0 g0 a w hn (h N w0 g0 a w hn hc)
theorem ARF_mk {N : Nat} {g : Operand} {ps : Array Tmp} {asn bdy : Code} {K : Env → Store → Prop} {e : Env} {S : Store} {f : FuncId} {fa ca : List AV} (hg : ev e g = .fn (.func f) fa ca) (v : AV) (S' U : Store) (hl : S'.length = S.length)
  (hac : ∀ b D fn, AC P f (fa ++ [.fn (.yield b) [] []] ++ ca) (S ++ [.loop b D fn (envL N e) ps asn bdy .ready]) v (S' ++ .loop b D fn (envL N e) ps asn bdy .ready :: U)) (hK : K e (S' ++ .dead :: U)) : ARF P N g ps asn bdy K e S := by
 unfold ARF
 rw [hg]
 exact ⟨v, S', U, hl, hac, hK⟩
end Go.Proofs.YtlefikdjhnaapaaGreatDoor.Pe
end
section
namespace Go.Proofs.YtlefikdjhnaapaaGreatDoor.Pe
open Go Go.RowKit Co Dm Wl
set_option maxRecDepth 100000
set_option maxHeartbeats 4000000
theorem crc_c (l : By) (h : l.length ≤ 9223372036854775807) : AC Tryz.prog 260 [.st l] [] (.it .u32 ((Sm.crc l).toNat : Int)) [] := by
 refine AC.ofBelow (by kernel_rfl) fun w g cargs ht hargs => ?_
 rw [lrel_st hargs]
 refine (crc_any ⟨l.toArray⟩ w (by simp [ByteArray.size]; omega)).mono ?_
 rintro r w' ⟨rfl, rfl⟩
 refine ⟨_, rfl, fun g' => ?_, Below.refl _ _⟩
 exact .it g' _ _
theorem shr32 (n k : Nat) (hk : k < 32) : aShr .u32 (n : Int) (k : Int) = some (.it .u32 ((n / 2 ^ k : Nat) : Int)) := by
 unfold aShr
 rw [if_pos (by omega)]
 simp only [Int.toNat_natCast, show IntKind.u32.bits = 32 from rfl, Nat.min_eq_left (Nat.le_of_lt hk)]
 congr 2
 rw [Int.fdiv_eq_ediv_of_nonneg _ (by exact_mod_cast Nat.zero_le _)]
 norm_cast
theorem wrapb (n : Nat) : IntKind.u8.wrap (n : Int) = ((UInt8.ofNat (n % 256)).toNat : Int) := by
 rw [ofNat8 (by omega)]
 unfold IntKind.wrap
 simp [IntKind.bits, IntKind.signed]
theorem checksum_c (s : By) (h : s.length ≤ 9223372036854775807) : AC Tryz.prog 201 [.st s] [] (.st (ck s)) [] := by
 have e0 := wrapb (Sm.crc s).toNat
 have e1 := wrapb ((Sm.crc s).toNat / 256)
 have e2 := wrapb ((Sm.crc s).toNat / 65536)
 have e3 := wrapb ((Sm.crc s).toNat / 16777216)
 have g1 : aShr .u32 ((Sm.crc s).toNat : Int) 8 = _ := shr32 _ 8 (by omega)
 have g2 : aShr .u32 ((Sm.crc s).toNat : Int) 16 = _ := shr32 _ 16 (by omega)
 have g3 : aShr .u32 ((Sm.crc s).toNat : Int) 24 = _ := shr32 _ 24 (by omega)
 simp only [Nat.reducePow] at g1 g2 g3
 have hk : ck s = [UInt8.ofNat ((Sm.crc s).toNat % 256), UInt8.ofNat ((Sm.crc s).toNat / 256 % 256), UInt8.ofNat ((Sm.crc s).toNat / 65536 % 256), UInt8.ofNat ((Sm.crc s).toNat / 16777216 % 256)] := rfl
 rw [hk]
 have hc := crc_c s h
 clear hk
 generalize (Sm.crc s).toNat = n at *
 generalize UInt8.ofNat (n % 256) = b0 at *
 generalize UInt8.ofNat (n / 256 % 256) = b1 at *
 generalize UInt8.ofNat (n / 65536 % 256) = b2 at *
 generalize UInt8.ofNat (n / 16777216 % 256) = b3 at *
 refine AC.enter [260] [] Tryz.func201 rfl (by decide) (by decide) znl (by kernel_rfl) ?_; refine zev ?_
 refine run ?_
 refine cp hc ?_
 have hb : bytesOf [AV.it .u8 (b0.toNat : Int), .it .u8 (b1.toNat : Int), .it .u8 (b2.toNat : Int), .it .u8 (b3.toNat : Int)] = some [b0, b1, b2, b3] := bytesOf_map [b0, b1, b2, b3]
 refine runf (an @e0 (an @e1 (an @e2 (an @e3 (an @g1 (an @g2 (an @g3 @hb))))))) ?_
 exact er0
theorem record_c (s : By) (h : s.length ≤ 140737488355328) : AC Tryz.prog 148 [.st s] [] (.st (rec1 s)) [] := by
 refine AC.enter [57, 201] [] Tryz.func148 rfl (by decide) (by decide) znl (by kernel_rfl) ?_; refine zev ?_
 have hl := numI_le (s.length : Int) (by omega)
 refine run ?_
 refine cp (num_c s.length (by omega) (by omega)) ?_
 rw [numI_nat] at *
 refine run ?_
 refine cp (checksum_c s (by omega)) ?_
 have hc := ck_len s
 refine run ?_
 exact er0
theorem records_c (s : By) : AC Tryz.prog 128 [.st s] [] (.fn (.func 200) [] [.ptr 0 0]) [.cells [.st s]] := by
 refine AC.enter [] [] Tryz.func128 rfl (by decide) (by decide) znl (by kernel_rfl) ?_; refine zev ?_
 refine run ?_
 exact ends_ret [0] (by rfl) (subOk_one 0 (by rfl) (by rfl)) (by rfl) (by rfl) (by rfl)
end Go.Proofs.YtlefikdjhnaapaaGreatDoor.Pe
end
section
namespace Go.Proofs.YtlefikdjhnaapaaGreatDoor.Pe
open Go Go.RowKit Co Dm Wl
set_option maxRecDepth 100000
set_option maxHeartbeats 4000000
theorem sren_idn {n : Nat} {ρ : Nat → Nat} {o : SObj} (h : o.ok n = true) (hρ : ∀ i, i < n → ρ i = i) : o.ren ρ = o := by
 cases o with
 | cells cs =>
  have : cs.map (AV.r1 ρ) = cs := map_id_of (p := AV.o1 n) h fun v hv => by
   have := ren_id (ρ := ρ) (v := .agg [v]) (n := n) (by simpa [AV.ok, AV.o2] using hv) hρ
   simpa [AV.ren, AV.r2] using this
  show SObj.cells _ = _
  rw [this]
 | row cs e sz =>
  have : cs.map (AV.r1 ρ) = cs := map_id_of (p := AV.o1 n) h fun v hv => by
   have := ren_id (ρ := ρ) (v := .agg [v]) (n := n) (by simpa [AV.ok, AV.o2] using hv) hρ
   simpa [AV.ren, AV.r2] using this
  show SObj.row _ _ _ = _
  rw [this]
 | map es =>
  have h := List.all_eq_true.1 h
  show SObj.map _ = SObj.map es
  congr 1
  rw [List.map_congr_left (g := id) fun p hp => ?_, List.map_id]
  have := h p hp
  simp only [Bool.and_eq_true] at this
  have h1 := ren_id (ρ := ρ) (v := .agg [p.1]) (n := n) (by simpa [AV.ok, AV.o2] using this.1) hρ
  have h2 := ren_id (ρ := ρ) (v := .tup [p.2]) (n := n) (by simpa [AV.ok] using this.2) hρ
  have h1 : p.1.r1 ρ = p.1 := by simpa [AV.ren, AV.r2] using h1
  have h2 : p.2.r2 ρ = p.2 := by
   have h2 : AV.tup [p.2.r2 ρ] = AV.tup [p.2] := h2
   simp only [AV.tup.injEq, List.cons.injEq, and_true] at h2
   exact h2
  rw [h1, h2]; rfl
 | loop b D fn es ps asn bdy st =>
  have : es.map (AV.ren ρ) = es := map_id_of (p := AV.ok n) h fun v hv => ren_id hv hρ
  show SObj.loop _ _ _ _ _ _ _ _ = _
  rw [this]
 | _ => rfl
theorem idx_range {n i : Nat} (h : i < n) : idx (List.range n) i = i := by
 unfold idx
 rw [List.getD_eq_getElem?_getD, List.getElem?_range h]
 rfl
theorem subOk_pre {S T : Store} (n : Nat) (hn : S.length = n) (h : S.all (SObj.ok n) = true) : SubOk (List.range n) (S ++ T) S := by
 refine ⟨List.nodup_range, by simpa using hn, fun i o hi => ?_⟩
 have hlt := (List.getElem?_eq_some_iff.1 hi).1
 have ho := List.all_eq_true.1 h o (List.mem_of_getElem? hi)
 rw [List.length_range]
 refine ⟨ho, ?_⟩
 rw [sren_idn ho (fun j hj => idx_range hj), idx_range (by omega), List.getElem?_append_left hlt]
 exact hi
theorem nilT {t : By} (h : t ≠ []) : 0 < t.length := List.length_pos_iff.2 h
theorem iter_c (data : By) (hd : data.length ≤ 16777216) (b : Nat) (o0 o2 o6 : SObj) (o1 o5 : List By → SObj) (o3 : Int → SObj)
  (hok : ∀ rows v, ([o0, o1 rows, o2, o3 v, .cells [.st data], o5 rows, o6] : Store).all (SObj.ok 7) = true)
  (hY : ∀ (rows : List By) (v en : Int) (s : By) (x : R), rows.length ≤ 16777216 → s.length ≤ 1048576 → AYB Tryz.prog b [.st s, .it .i64 en] [o0, o1 rows, o2, o3 v, .cells [.st data], o5 rows, o6, rd x] (.bo true) [o0, o1 (rows ++ [s]), o2, o3 en, .cells [.st data], o5 (rows ++ [s]), o6, rd x]) :
  AC Tryz.prog 200 [.fn (.yield b) [] [], .ptr 4 0] [o0, o1 [], o2, o3 0, .cells [.st data], o5 [], o6] (.tup []) [o0, o1 (rowsOf data), o2, o3 ((recs (rowsOf data)).length : Int), .cells [.st data], o5 (rowsOf data), o6] := by
 refine AC.enter2 [201] [135] Tryz.func200 rfl (by decide) (by decide) znl (by kernel_rfl) ?_; refine zev ?_
 refine run ?_
 refine call_mk (AC.newAt (open_c data) _) ?_
 refine run ?_
 have fin : ∀ (x : R) (rows : List By) (v : Int) (e : Env), rows = rowsOf data → v = ((recs rows).length : Int) →
   Fin Tryz.prog Tryz.f200.results.toList 7 (.tup []) [o0, o1 (rowsOf data), o2, o3 ((recs (rowsOf data)).length : Int), .cells [.st data], o5 (rowsOf data), o6] e [o0, o1 rows, o2, o3 v, .cells [.st data], o5 rows, o6, rd x] := by
  intro x rows v e h1 h2
  subst h2; subst h1
  have := ends_ret (P := Tryz.prog) (rs := Tryz.f200.results.toList) (v := .tup []) (e := e) (N0 := 7) (vs := []) (List.range 7) (by rfl) (subOk_pre (S := [o0, o1 (rowsOf data), o2, o3 ((recs (rowsOf data)).length : Int), .cells [.st data], o5 (rowsOf data), o6]) (T := [rd x]) 7 rfl (hok _ _)) (by rfl) (by rfl) (by rfl)
  exact this
 refine loop_mk (fun m e S => e 0 = .fn (.yield b) [] [] ∧ e 1 = .ptr 4 0 ∧ e 3 = .ptr 7 0 ∧ ∃ (rows : List By) (t : By), S = [o0, o1 rows, o2, o3 ((recs rows).length : Int), .cells [.st data], o5 rows, o6, rd ⟨t, false⟩] ∧ data = recs rows ++ t ∧ okL rows ∧ rows.length ≤ (recs rows).length ∧ m = t.length) data.length ⟨zsl, zsl, zsl, [], data, rfl, rfl, (fun s hs => by cases hs), Nat.le_refl _, rfl⟩ ?_
 rintro m e S ⟨s0, s1, s3, rows, t, rfl, hdt, hokr, hrl, rfl⟩
 have hlen : data.length = (recs rows).length + t.length := by rw [← List.length_append, ← hdt]
 have hstuck : Wl.stuck t → rows = rowsOf data := fun h => by rw [hdt]; exact (rows_back hokr h).1.symm
 refine runf (an @s0 (an @s1 @s3)) ?_
 refine c1r 7 (left_c ⟨t, false⟩) ?_
 by_cases ht : t = []
 ·have hr := hstuck (by rw [ht]; exact stuck_nil)
  have ht0 : ¬ (0 < (t.length : Int)) := by rw [ht]; decide
  refine runf (an @s0 (an @s1 (an @s3 @ht0))) ?_
  exact fin _ _ _ _ hr rfl
 have ht0 : 0 < (t.length : Int) := by have := nilT ht; omega
 have hst : Wl.step ⟨t, false⟩ = (if ((R.num ⟨t, false⟩).2.take 4).1.length ≠ 4 ∨ 1048576 < (R.num ⟨t, false⟩).1 then none else
  if (((R.num ⟨t, false⟩).2.take 4).2.take (R.num ⟨t, false⟩).1).1.length ≠ (R.num ⟨t, false⟩).1 ∨ ck (((R.num ⟨t, false⟩).2.take 4).2.take (R.num ⟨t, false⟩).1).1 ≠ ((R.num ⟨t, false⟩).2.take 4).1 then none else
  some (((R.num ⟨t, false⟩).2.take 4).2.take (R.num ⟨t, false⟩).1)) := rfl
 have hinv := fun (s : By) (x : R) => step_inv (b := t) (s := s) (x := x)
 have k1 := rnum_c ⟨t, false⟩ (by show t.length < _; omega)
 have l1 := num_rest ⟨t, false⟩
 have l0 := num_lt ⟨t, false⟩
 refine runf (an @s0 (an @s1 (an @s3 @ht0))) ?_
 unfold Wl.stuck at hstuck
 generalize (R.num ⟨t, false⟩).1 = n at *
 generalize (R.num ⟨t, false⟩).2 = x1 at *
 refine c1 7 k1 ?_
 refine runf (an @s0 (an @s1 (an @s3 @ht0))) ?_
 have l1 : x1.rest.length ≤ t.length := l1
 have k2 := take_c x1 4 (by omega) (by omega)
 have l2 := take_rest x1 4
 generalize (x1.take 4).1 = c at *
 generalize (x1.take 4).2 = x2 at *
 refine c1 7 k2 ?_
 by_cases h4 : c.length = 4
 rotate_left
 ·rw [if_pos (.inl h4)] at hst
  have hr := hstuck hst
  refine runf (an @s0 (an @s1 @s3)) ?_
  exact fin _ _ _ _ hr rfl
 by_cases hn : 1048576 < n
 ·rw [if_pos (.inr hn)] at hst
  have hr := hstuck hst
  refine runf (an @s0 (an @s1 @s3)) ?_
  exact fin _ _ _ _ hr rfl
 rw [if_neg (by omega)] at hst
 refine runf (an @s0 (an @s1 @s3)) ?_
 have k3 := take_c x2 n (by omega) (by omega)
 have l3 := take_rest x2 n
 have e3 : x2.take n = ((x2.take n).1, (x2.take n).2) := rfl
 rw [e3] at hst
 generalize (x2.take n).1 = s at *
 generalize (x2.take n).2 = x3 at *
 clear e3
 refine c1 7 k3 ?_
 by_cases h5 : s.length = n
 rotate_left
 ·rw [if_pos (.inl h5)] at hst
  have hr := hstuck hst
  have h6 : ¬ ((s.length : Int) = (n : Int)) := by omega
  refine runf (an @s0 (an @s1 (an @s3 @h6))) ?_
  exact fin _ _ _ _ hr rfl
 have h6 : (s.length : Int) = (n : Int) := by omega
 refine runf (an @s0 (an @s1 (an @s3 @h6))) ?_
 refine cp (checksum_c s (by omega)) ?_
 by_cases h7 : ck s = c
 rotate_left
 ·rw [if_pos (.inr h7)] at hst
  have hr := hstuck hst
  have e7 : (ck s == c) = false := by simpa using h7
  refine runf (an @s0 (an @s1 (an @s3 @e7))) ?_
  exact fin _ _ _ _ hr rfl
 have e7 : (ck s == c) = true := by simpa using h7
 rw [if_neg (by simp [h5, h7])] at hst
 obtain ⟨i1, i2, i3⟩ := step_inv hst
 obtain ⟨t', bad⟩ := x3
 simp only at i1 i3
 subst i3
 refine runf (an @s0 (an @s1 (an @s3 @e7))) ?_
 refine c1r 7 (left_c ⟨t', false⟩) ?_
 have hrec : data = recs (rows ++ [s]) ++ t' := by rw [recs_snoc, List.append_assoc, ← i1]; exact hdt
 have hpos := rec1_pos s
 have hl1 : (recs (rows ++ [s])).length = (recs rows).length + (rec1 s).length := by rw [recs_snoc, List.length_append]
 have hl2 : t.length = (rec1 s).length + t'.length := by rw [i1, List.length_append]
 have hen : (data.length : Int) - (t'.length : Int) = ((recs (rows ++ [s])).length : Int) := by omega
 have hyy := hY rows ((recs rows).length : Int) ((recs (rows ++ [s])).length : Int) s ⟨t', false⟩ (by omega) i2
 have hrl2 : (rows ++ [s]).length ≤ (recs (rows ++ [s])).length := by rw [List.length_append]; simp only [List.length_cons, List.length_nil]; omega
 have hok2 : okL (rows ++ [s]) := okL_append hokr (fun x hx => by rw [List.mem_singleton.1 hx]; exact i2)
 clear hY hst hinv hstuck i1 hdt
 generalize hm1 : (recs (rows ++ [s])).length = m1 at *
 refine runf (an @s0 (an @s1 (an @s3 @hen))) ?_
 refine callP_mk _ _ (show AYT _ _ _ _ _ _ _ _ _ from ⟨⟨rfl, rfl⟩, hyy⟩) ?_
 refine runf (an @s0 (an @s1 @s3)) ?_
 exact round_mk t'.length (by omega) ⟨zsl, zsl, zsl, rows ++ [s], t', by rw [hm1], hrec, hok2, by omega, rfl⟩
end Go.Proofs.YtlefikdjhnaapaaGreatDoor.Pe
end
section
namespace Go.Proofs.YtlefikdjhnaapaaGreatDoor.Pe
open Go Go.RowKit Co Dm Wl
set_option maxRecDepth 100000
set_option maxHeartbeats 4000000
theorem subOk_same {S1 S : Store} (n : Nat) (h : S1 = S) (hn : S.length = n) (hk : S.all (SObj.ok n) = true) : SubOk (List.range n) S1 S := by
 subst h
 have := subOk_pre (T := []) n hn hk
 rwa [List.append_nil] at this
abbrev LG (d : Dk) (f : Int) (rows : List By) : Store := [XD d, .cells [.ptr 0 0, .it .i64 f, .sl (.own 2) (rows.map .st)], .buf rows.length 9 1]
theorem clear_c (d : Dk) (f : Int) (rows : List By) (hf : 0 ≤ f ∧ f ≤ 6) : AC Tryz.prog 130 [.ptr 1 0] (LG d f rows) (.it .i64 (clearD d f).1) (LG (clearD d f).2 f rows) := by
 refine AC.enter2 [] [203] Tryz.func130 rfl (by decide) (by decide) znl (by kernel_rfl) ?_; refine zev ?_
 have hcl : clearD d f = (if size d (f + 1) = 0 then (0, d) else cutD d (f + 1) 0) := rfl
 refine run ?_
 refine c1r 0 (d_size d (f + 1)) ?_
 by_cases hz : size d (f + 1) = 0
 ·rw [if_pos hz] at hcl
  rw [hcl]
  have e1 : ((size d (f + 1) : Int) == 0) = true := by rw [hz]; rfl
  refine runf @e1 ?_
  exact ends_ret (List.range 3) (by rfl) (subOk_pre (S := LG d f rows) (T := []) 3 rfl (by rfl)) (by rfl) (by rfl) (by rfl)
 ·rw [if_neg hz] at hcl
  rw [hcl]
  have e1 : ((size d (f + 1) : Int) == 0) = false := by simp; omega
  refine runf @e1 ?_
  refine c1 0 (d_cut d (f + 1) 0) ?_
  refine run ?_
  exact ends_ret (List.range 3) (by rfl) (subOk_pre (S := LG (cutD d (f + 1) 0).2 f rows) (T := []) 3 rfl (by rfl)) (by rfl) (by rfl) (by rfl)
theorem records_at (s : By) (T : Store) : AC Tryz.prog 128 [.st s] T (.fn (.func 200) [] [.ptr T.length 0]) (T ++ [.cells [.st s]]) := by
 have := AC.fresh1 (records_c s) rfl (by rfl) (by rfl) T
 simpa [AV.ren, AV.r2, AV.r1, AV.r0, SObj.ren] using this
abbrev LO (d : Dk) (f : Int) (rows : List By) (o2 o3 o4 o6 : SObj) : Store := [XD d, .cells [.ptr 0 0, .it .i64 f, .sl (.own 5) (rows.map .st)], o2, o3, o4, .buf rows.length 9 1, o6]
theorem lo_sub (d : Dk) (f : Int) (rows : List By) (o2 o3 o4 o6 : SObj) : SubOk [0, 1, 5] (LO d f rows o2 o3 o4 o6) (LG d f rows) := ⟨by decide, rfl, fun i o hi => by
 match i, hi with
 | 0, hi => cases hi; exact ⟨rfl, rfl⟩
 | 1, hi => cases hi; exact ⟨rfl, rfl⟩
 | 2, hi => cases hi; exact ⟨rfl, rfl⟩⟩
theorem clear_at (d : Dk) (f : Int) (rows : List By) (hf : 0 ≤ f ∧ f ≤ 6) (o2 o3 o4 o6 : SObj) : AC Tryz.prog 130 [.ptr 1 0] (LO d f rows o2 o3 o4 o6) (.it .i64 (clearD d f).1) (LO (clearD d f).2 f rows o2 o3 o4 o6) :=
 (clear_c d f rows hf).frame (T := LO d f rows o2 o3 o4 o6) [0, 1, 5] (lo_sub ..) rfl rfl (fun i o hi => by
  match i, hi with
  | 0, hi => cases hi; rfl
  | 1, hi => cases hi; rfl
  | 2, hi => cases hi; rfl)
theorem wopen_c (d : Dk) (f : Int) (hf : 0 ≤ f ∧ f ≤ 6) (hb : (peek d f).1.length ≤ 16777216) (v : AV) (S' : Store)
  (h0 : (openD d f).1 = 0 → v = .tup [.ptr 1 0, .it .i64 0] ∧ S' = LG (openD d f).2 f (rowsOf (peek d f).1))
  (h1 : (openD d f).1 ≠ 0 → v = .tup [.ot (.pointer none), .it .i64 (openD d f).1] ∧ S' = [XD (openD d f).2]) :
  AC Tryz.prog 68 [.ptr 0 0, .it .i64 f] [XD d] v S' := by
 refine AC.enterN 76 [] [] Tryz.func68 rfl (by decide) (by decide) znl (by kernel_rfl) rfl ?_; refine zev ?_
 have hod : openD d f = (if (peek d f).2 ≠ 0 then ((peek d f).2, d) else
  if (trimD d f).1 ≠ 0 then trimD d f else
  if (clearD (trimD d f).2 f).1 ≠ 0 then clearD (trimD d f).2 f else
  flushD (clearD (trimD d f).2 f).2 f) := rfl
 have htr : trimD d f = (if (recs (rowsOf (peek d f).1)).length < (peek d f).1.length then cutD d f ((recs (rowsOf (peek d f).1)).length : Int) else (0, d)) := rfl
 have hn1 : ¬ f < 0 := by omega
 have hn2 : ¬ 6 < f := by omega
 have kr := d_read d f
 generalize (peek d f).1 = b at *
 generalize (peek d f).2 = en at *
 refine runf (an @hn1 @hn2) ?_
 refine c1 0 kr ?_
 by_cases hen : en = 0
 rotate_left
 ·rw [if_pos hen] at hod
  rw [hod] at h0 h1
  obtain ⟨rfl, rfl⟩ := h1 hen
  have e1 : (en != 0) = true := by simpa using hen
  refine runf @e1 ?_
  exact ends_ret (List.range 1) (by rfl) (subOk_pre (S := [XD d]) (T := []) 1 rfl (by rfl)) (by rfl) (by rfl) (by rfl)
 rw [if_neg (by simpa using hen)] at hod
 subst hen
 refine run ?_
 refine call_mk (records_at b _) ?_
 refine run ?_
 refine ⟨_, _, (Weak.keep 1 ((((((Keep.nil _).cons 0 (.ptr 0 0) zsl).cons 1 (.it .i64 f) zsl).cons 6 (.st b) zsl).cons 8 (.ptr 2 0) zsl).cons 9 (.ptr 3 0) zsl |>.cons 39 (.fn (.func 200) [] [.ptr 4 0]) zsl)).trans2 (Weak.reserveN 1 1 2 (es := []) (by rfl) (by rfl) 9 1), ?_⟩
 have hEok : (envL 76 (upd (upd (upd (upd (upd (upd (fun _ => .junk) 0 (.ptr 0 0)) 1 (.it .i64 f)) 6 (.st b)) 8 (.ptr 2 0)) 9 (.ptr 3 0)) 39 (.fn (.func 200) [] [.ptr 4 0]))).all (AV.ok 7) = true := by rfl
 have hEok8 : (envL 76 (upd (upd (upd (upd (upd (upd (fun _ => .junk) 0 (.ptr 0 0)) 1 (.it .i64 f)) 6 (.st b)) 8 (.ptr 2 0)) 9 (.ptr 3 0)) 39 (.fn (.func 200) [] [.ptr 4 0]))).all (AV.ok 8) = true := by rfl
 have s0 : upd (upd (upd (upd (upd (upd (fun _ => .junk) 0 (.ptr 0 0)) 1 (.it .i64 f)) 6 (.st b)) 8 (.ptr 2 0)) 9 (.ptr 3 0)) 39 (.fn (.func 200) [] [.ptr 4 0]) 0 = .ptr 0 0 := rfl
 have s1 : upd (upd (upd (upd (upd (upd (fun _ => .junk) 0 (.ptr 0 0)) 1 (.it .i64 f)) 6 (.st b)) 8 (.ptr 2 0)) 9 (.ptr 3 0)) 39 (.fn (.func 200) [] [.ptr 4 0]) 1 = .it .i64 f := rfl
 have s6 : upd (upd (upd (upd (upd (upd (fun _ => .junk) 0 (.ptr 0 0)) 1 (.it .i64 f)) 6 (.st b)) 8 (.ptr 2 0)) 9 (.ptr 3 0)) 39 (.fn (.func 200) [] [.ptr 4 0]) 6 = .st b := rfl
 have s8 : upd (upd (upd (upd (upd (upd (fun _ => .junk) 0 (.ptr 0 0)) 1 (.it .i64 f)) 6 (.st b)) 8 (.ptr 2 0)) 9 (.ptr 3 0)) 39 (.fn (.func 200) [] [.ptr 4 0]) 8 = .ptr 2 0 := rfl
 have s9 : upd (upd (upd (upd (upd (upd (fun _ => .junk) 0 (.ptr 0 0)) 1 (.it .i64 f)) 6 (.st b)) 8 (.ptr 2 0)) 9 (.ptr 3 0)) 39 (.fn (.func 200) [] [.ptr 4 0]) 9 = .ptr 3 0 := rfl
 have s39 : upd (upd (upd (upd (upd (upd (fun _ => .junk) 0 (.ptr 0 0)) 1 (.it .i64 f)) 6 (.st b)) 8 (.ptr 2 0)) 9 (.ptr 3 0)) 39 (.fn (.func 200) [] [.ptr 4 0]) 39 = .fn (.func 200) [] [.ptr 4 0] := rfl
 generalize (upd (upd (upd (upd (upd (upd (fun _ => .junk) 0 (.ptr 0 0)) 1 (.it .i64 f)) 6 (.st b)) 8 (.ptr 2 0)) 9 (.ptr 3 0)) 39 (.fn (.func 200) [] [.ptr 4 0])) = E at *
 refine ARF_mk (show ev E (.tmp 39) = _ from s39) (.tup []) [XD d, .cells [.ptr 0 0, .it .i64 f, .sl (.own 5) ((rowsOf b).map .st)], .cells [.ptr 1 0], .cells [.it .i64 ((recs (rowsOf b)).length : Int)], .cells [.st b], .buf (rowsOf b).length 9 1] [] rfl ?_ ?_
 ·intro bk D fn
  refine iter_c b hb bk (XD d) (.cells [.ptr 1 0]) (.loop bk D fn (envL 76 E) _ _ _ .ready) (fun rows => .cells [.ptr 0 0, .it .i64 f, .sl (.own 5) (rows.map .st)]) (fun rows => .buf rows.length 9 1) (fun v => .cells [.it .i64 v]) (fun rows v => ?_) ?_
  ·show (true && (true && (true && (true && (true && (true && ((envL 76 E).all (AV.ok 7) && true))))))) = true
   rw [hEok]
   rfl
  intro rows v en s x hr hs
  have f1 : (rows ++ [s]).map AV.st = rows.map .st ++ [.st s] := List.map_append ..
  have f2 : (rows ++ [s]).length = rows.length + 1 := by simp
  simp only [f1, f2]
  refine AYB.enter4 (es := envL 76 E) [] [] [(11, ([2], [42, 43], []))] [] 6 rfl rfl (by intro p hp; simp at hp; rcases hp with rfl | rfl <;> simp [envL]) rfl (by kernel_rfl) (by kernel_rfl) rfl ?_
  have a8 : argEnv (envL 76 E) 8 = .ptr 2 0 := (argEnv_envL E (by omega)).trans s8
  have a9 : argEnv (envL 76 E) 9 = .ptr 3 0 := (argEnv_envL E (by omega)).trans s9
  simp only [eraseC, eraseG, eraseO, List.map_cons, List.map_nil, List.map_toArray, List.getElem?_toArray, List.getElem?_cons_zero, List.getElem?_cons_succ, Option.bind_some, Option.bind_none, List.append_eq, List.cons_append, List.nil_append, putE_cons, putE_nil]
  refine run ?_
  refine ⟨rfl, ?_⟩
  simp only [eraseC, eraseG, eraseO, List.map_cons, List.map_nil, List.map_toArray, List.getElem?_toArray, List.getElem?_cons_zero, List.getElem?_cons_succ, Option.bind_some, Option.bind_none, List.append_eq, List.cons_append, List.nil_append, eraseC4, eraseC3, hasSp, ordOf, List.isEmpty_nil, List.isEmpty_cons, Bool.and_true, Bool.and_false, Bool.and_self, Bool.false_and, Bool.true_and, List.lookup, Nat.reduceBEq, beq_self_eq_true, Option.isSome_some, Option.isSome_none, Bool.or_true, Bool.true_or, Bool.or_false, Bool.not_true, Bool.not_false, Bool.false_eq_true, if_true, if_false, ↓reduceIte, List.size_toArray, List.length_cons, List.length_nil, List.range_succ_eq_map, List.range_zero, Nat.reduceAdd, List.filterMap_cons, List.filterMap_nil]
  have hsz : allSz 1 [AV.st s] = true := rfl
  have hft : fits (rows.length + 1) 16 = true := by apply fits_ok <;> omega
  have hlen : (rows.map AV.st).length = rows.length := List.length_map _
  refine runf4 (an @a8 @a9) ?_
  refine ⟨_, _, Weak.keep 8 ((((Keep.nil _).cons 8 (.ptr 2 0) zsl).cons 9 (.ptr 3 0) zsl).cons 10 (.st s) zsl |>.cons 11 (.it .i64 en) zsl), ?_⟩
  refine run4 ?_
  repeat (first | refine k4 ?_ | refine k4r ?_ | (refine a4r ?_; refine runf4 (an @hsz (an @hft @hlen)) ?_) | (refine a4 ?_; refine runf4 (an @hsz (an @hft @hlen)) ?_)); try refine runf4 (an @hsz (an @hft @hlen)) ?_
  refine ⟨_, _, List.range 8, Weak.refl _ _ _, rfl, subOk_same 8 rfl rfl ?_, rfl⟩
  show (true && (true && (true && (true && (true && (true && ((envL 76 E).all (AV.ok 8) && (true && true)))))))) = true
  rw [hEok8]
  rfl
 ·clear hEok hEok8 s39
  generalize hrw : rowsOf b = rows at *
  have one : ∀ (d' : Dk) (o2 o3 o4 o6 : SObj), SubOk [0] (LO d' f rows o2 o3 o4 o6) [XD d'] := fun d' o2 o3 o4 o6 => subOk_one 0 rfl rfl
  by_cases hlt : (recs rows).length < b.length
  ·rw [if_pos hlt] at htr
   have e1 : ((recs rows).length : Int) < (b.length : Int) := by omega
   refine runf (an @s0 (an @s1 (an @s6 (an @s8 (an @s9 @e1))))) ?_
   refine c1 0 (d_cut d f ((recs rows).length : Int)) ?_
   rw [← htr]
   clear htr
   generalize trimD d f = q at *
   obtain ⟨te, d1⟩ := q
   simp only at hod
   by_cases hte : te = 0
   rotate_left
   ·rw [if_pos hte] at hod
    rw [hod] at h0 h1
    obtain ⟨rfl, rfl⟩ := h1 hte
    have e3 : (te != 0) = true := by simpa using hte
    refine runf (an @s0 (an @s1 (an @s6 (an @s8 (an @s9 @e3))))) ?_
    exact ends_ret [0] (by rfl) (one _ _ _ _ _) (by rfl) (by rfl) (by rfl)
   subst hte
   rw [if_neg (by simp)] at hod
   refine runf (an @s0 (an @s1 (an @s6 (an @s8 @s9)))) ?_
   have kc := clear_at d1 f rows hf (.cells [.ptr 1 0]) (.cells [.it .i64 ((recs rows).length : Int)]) (.cells [.st b]) .dead
   refine call_mk kc ?_
   generalize clearD d1 f = q2 at *
   obtain ⟨ce, d2⟩ := q2
   simp only at hod
   by_cases hce : ce = 0
   rotate_left
   ·rw [if_pos hce] at hod
    rw [hod] at h0 h1
    obtain ⟨rfl, rfl⟩ := h1 hce
    have e3 : (ce != 0) = true := by simpa using hce
    refine runf (an @s0 (an @s1 (an @s6 (an @s8 (an @s9 @e3))))) ?_
    exact ends_ret [0] (by rfl) (one _ _ _ _ _) (by rfl) (by rfl) (by rfl)
   subst hce
   rw [if_neg (by simp)] at hod
   refine runf (an @s0 (an @s1 (an @s6 (an @s8 @s9)))) ?_
   have kf := d_flush d2 f
   refine c1 0 kf ?_
   generalize flushD d2 f = q3 at *
   obtain ⟨fe, d3⟩ := q3
   rw [hod] at h0 h1
   simp only at h0 h1
   by_cases hfe : fe = 0
   rotate_left
   ·obtain ⟨rfl, rfl⟩ := h1 hfe
    have e3 : (fe != 0) = true := by simpa using hfe
    refine runf (an @s0 (an @s1 (an @s6 (an @s8 (an @s9 @e3))))) ?_
    exact ends_ret [0] (by rfl) (one _ _ _ _ _) (by rfl) (by rfl) (by rfl)
   subst hfe
   obtain ⟨rfl, rfl⟩ := h0 rfl
   refine runf (an @s0 (an @s1 (an @s6 (an @s8 @s9)))) ?_
   exact ends_ret [0, 1, 5] (by rfl) (lo_sub ..) (by rfl) (by rfl) (by rfl)
  ·rw [if_neg hlt] at htr
   have e1 : ¬ ((recs rows).length : Int) < (b.length : Int) := by omega
   refine runf (an @s0 (an @s1 (an @s6 (an @s8 (an @s9 @e1))))) ?_
   generalize trimD d f = q at *
   subst htr
   simp only at hod
   rw [if_neg (by simp)] at hod
   generalize d = d1 at *
   have kc := clear_at d1 f rows hf (.cells [.ptr 1 0]) (.cells [.it .i64 ((recs rows).length : Int)]) (.cells [.st b]) .dead
   refine call_mk kc ?_
   generalize clearD d1 f = q2 at *
   obtain ⟨ce, d2⟩ := q2
   simp only at hod
   by_cases hce : ce = 0
   rotate_left
   ·rw [if_pos hce] at hod
    rw [hod] at h0 h1
    obtain ⟨rfl, rfl⟩ := h1 hce
    have e3 : (ce != 0) = true := by simpa using hce
    refine runf (an @s0 (an @s1 (an @s6 (an @s8 (an @s9 @e3))))) ?_
    exact ends_ret [0] (by rfl) (one _ _ _ _ _) (by rfl) (by rfl) (by rfl)
   subst hce
   rw [if_neg (by simp)] at hod
   refine runf (an @s0 (an @s1 (an @s6 (an @s8 @s9)))) ?_
   have kf := d_flush d2 f
   refine c1 0 kf ?_
   generalize flushD d2 f = q3 at *
   obtain ⟨fe, d3⟩ := q3
   rw [hod] at h0 h1
   simp only at h0 h1
   by_cases hfe : fe = 0
   rotate_left
   ·obtain ⟨rfl, rfl⟩ := h1 hfe
    have e3 : (fe != 0) = true := by simpa using hfe
    refine runf (an @s0 (an @s1 (an @s6 (an @s8 (an @s9 @e3))))) ?_
    exact ends_ret [0] (by rfl) (one _ _ _ _ _) (by rfl) (by rfl) (by rfl)
   subst hfe
   obtain ⟨rfl, rfl⟩ := h0 rfl
   refine runf (an @s0 (an @s1 (an @s6 (an @s8 @s9)))) ?_
   exact ends_ret [0, 1, 5] (by rfl) (lo_sub ..) (by rfl) (by rfl) (by rfl)
end Go.Proofs.YtlefikdjhnaapaaGreatDoor.Pe
end
section
namespace Go.Proofs.YtlefikdjhnaapaaGreatDoor.Pe
open Go Go.RowKit Co Dm Wl
set_option maxRecDepth 100000
set_option maxHeartbeats 4000000
theorem lg_same (d : Dk) (f : Int) (rows : List By) : SubOk (List.range 3) (LG d f rows) (LG d f rows) := subOk_same 3 rfl rfl rfl
theorem wadd_c (d : Dk) (f : Int) (rows : List By) (s : By) (hs : s.length ≤ 140737488355328) (hr : rows.length ≤ 16777216) :
  AC Tryz.prog 78 [.ptr 1 0, .st s] (LG d f rows) (.it .i64 (addD d f s).1) (LG (addD d f s).2 f (if (addD d f s).1 = 0 then rows ++ [s] else rows)) := by
 refine AC.enter2 [148] [] Tryz.func78 rfl (by decide) (by decide) znl (by kernel_rfl) ?_; refine zev ?_
 have had : addD d f s = (if 1048576 < s.length then (7, d) else appendD d f (rec1 s)) := rfl
 by_cases hl : 1048576 < s.length
 ·rw [if_pos hl] at had
  rw [had]
  simp only
  rw [if_neg (by decide)]
  have e1 : (s.length : Int) > 1048576 := by omega
  refine runf @e1 ?_
  exact ends_ret (List.range 3) (by rfl) (lg_same ..) (by rfl) (by rfl) (by rfl)
 rw [if_neg hl] at had
 have e1 : ¬ ((s.length : Int) > 1048576) := by omega
 have hrl : (rec1 s).length ≤ 9223372036854775807 := by
  have h1 := num_le 8 s.length (by omega)
  have h2 := ck_len s
  simp only [rec1, List.length_append]
  omega
 refine runf @e1 ?_
 refine cp (record_c s hs) ?_
 refine run ?_
 refine c1 0 (d_append d f (rec1 s) hrl) ?_
 rw [← had]
 generalize addD d f s = q
 obtain ⟨en, d2⟩ := q
 try simp only
 by_cases hen : en = 0
 ·subst hen
  rw [if_pos rfl]
  have hft : fits (rows.length + 1) 16 = true := by apply fits_ok <;> omega
  have hln : (rows.map AV.st).length = rows.length := List.length_map _
  have f1 : (rows ++ [s]).map AV.st = rows.map .st ++ [.st s] := List.map_append ..
  have f2 : (rows ++ [s]).length = rows.length + 1 := by simp
  unfold LG
  simp only [f1, f2]
  refine runf (an @hft @hln) ?_
  exact ends_ret (List.range 3) (by rfl) (subOk_same 3 rfl rfl rfl) (by rfl) (by rfl) (by rfl)
 ·rw [if_neg hen]
  have e2 : (en == 0) = false := by simpa using hen
  refine runf @e2 ?_
  exact ends_ret (List.range 3) (by rfl) (lg_same ..) (by rfl) (by rfl) (by rfl)
theorem wflush_c (d : Dk) (f : Int) (rows : List By) : AC Tryz.prog 82 [.ptr 1 0] (LG d f rows) (.it .i64 (flushD d f).1) (LG (flushD d f).2 f rows) := by
 refine AC.enter2 [] [] Tryz.func82 rfl (by decide) (by decide) znl (by kernel_rfl) ?_; refine zev ?_
 refine run ?_
 refine c1 0 (d_flush d f) ?_
 refine run ?_
 exact ends_ret (List.range 3) (by rfl) (lg_same ..) (by rfl) (by rfl) (by rfl)
end Go.Proofs.YtlefikdjhnaapaaGreatDoor.Pe
end
section
namespace Go.Proofs.YtlefikdjhnaapaaGreatDoor.Pe
open Go Go.RowKit Co Dm Wl
set_option maxRecDepth 100000
set_option maxHeartbeats 4000000
theorem AC.emptiesW [Tab] {P : Program} {f : FuncId} {m : Mode} {rest : List AV} {S S' : Store} {v : AV} (h : ∀ (A : Option Addr) (c : Nat), AC P f (.ot (.slice A 0 c) :: rest) S v S') : AC P f (.sl m [] :: rest) S v S' := by
 refine ⟨(h none 0).can, fun w g cargs hw hargs => ?_⟩
 obtain ⟨h1, h2⟩ := hargs
 have h0 : 0 < cargs.size := by rw [h1]; simp
 have hr := h2 0 _ cargs[0] rfl (Array.getElem?_eq_getElem h0)
 generalize hcv : cargs[0] = cv at hr
 cases hr with
 | sl _ _ _ A c sz cu hc hcm hsz hA h1' hr' hm =>
  refine (h A c).run w g cargs hw ⟨by simpa using h1, fun j u v hu hv => ?_⟩
  cases j with
  | zero =>
   simp only [List.getElem?_cons_zero, Option.some.injEq] at hu
   subst hu
   rw [Array.getElem?_eq_getElem h0, hcv] at hv
   cases hv
   exact .ot _ _ rfl
  | succ j => exact h2 (j + 1) u v (by simpa using hu) hv
theorem wclone_c (l : List By) (hl : l.length ≤ 16777216) : AC Tryz.prog 132 [.sl .ro (l.map AV.st)] [] (.sl .ro (l.map AV.st)) [] := by
 cases l with
 | nil =>
  refine AC.emptiesW fun A c => ?_
  refine AC.enter [] [] Tryz.func132 rfl (by decide) (by decide) znl (by kernel_rfl) ?_; refine zev ?_
  cases A with
  | none =>
   refine run ?_
   exact er0w
  | some A =>
   refine run ?_
   exact er0w
 | cons x l =>
  have hs1 : allSz 1 ((x :: l).map AV.st) = true := allSz_map 1 AV.st (fun _ => rfl) _
  have hl' : l.length ≤ 16777216 := by simp only [List.length_cons] at hl; omega
  simp only [List.map_cons] at hs1 ⊢
  refine AC.enter [] [] Tryz.func132 rfl (by decide) (by decide) znl (by kernel_rfl) ?_; refine zev ?_
  refine runf @hs1 ?_
  exact er0w
theorem wall_c (d : Dk) (f : Int) (rows : List By) (hr : rows.length ≤ 16777216) : AC Tryz.prog 69 [.ptr 1 0] (LG d f rows) (.sl .ro (rows.map AV.st)) (LG d f rows) := by
 refine AC.enter2 [132] [] Tryz.func69 rfl (by decide) (by decide) znl (by kernel_rfl) ?_; refine zev ?_
 refine run ?_
 refine cp (wclone_c rows hr) ?_
 refine run ?_
 exact ends_ret (List.range 3) (by rfl) (lg_same ..) (by rfl) (by rfl) (by rfl)
end Go.Proofs.YtlefikdjhnaapaaGreatDoor.Pe
end
section
namespace Go.Proofs.YtlefikdjhnaapaaGreatDoor.Pe
open Go Go.RowKit Co Dm Wl
set_option maxRecDepth 100000
set_option maxHeartbeats 4000000
theorem wopen_ok (d : Dk) (f : Int) (hf : 0 ≤ f ∧ f ≤ 6) (hb : (peek d f).1.length ≤ 16777216) (h : (openD d f).1 = 0) :
  AC Tryz.prog 68 [.ptr 0 0, .it .i64 f] [XD d] (.tup [.ptr 1 0, .it .i64 0]) (LG (openD d f).2 f (rowsOf (peek d f).1)) :=
 wopen_c d f hf hb _ _ (fun _ => ⟨rfl, rfl⟩) (fun h' => absurd h h')
section
variable {P : Program} {pf rf : List FuncId} {e : Env} {f : FuncId} {dst : Option Nat} {rest : List AO} {K : Env → Store → Prop}
theorem lg_ok (d : Dk) (n : Int) (rows : List By) : ∀ (i : Nat) (o : SObj), (LG d n rows)[i]? = some o → o.ok 3 = true := fun i o hi => by
 match i, hi with
 | 0, hi => cases hi; rfl
 | 1, hi => cases hi; rfl
 | 2, hi => cases hi; rfl
structure LgAt (T : Store) (a b c : Nat) (d : Dk) (n : Int) (rows : List By) : Prop where
 ab : a ≠ b
 ac : a ≠ c
 bc : b ≠ c
 d0 : T[a]? = some (XD d)
 l0 : T[b]? = some (.cells [.ptr a 0, .it .i64 n, .sl (.own c) (rows.map .st)])
 r0 : T[c]? = some (.buf rows.length 9 1)
theorem LgAt.sub {T : Store} {a b c : Nat} {d : Dk} {n : Int} {rows : List By} (h : LgAt T a b c d n rows) : SubOk [a, b, c] T (LG d n rows) := ⟨by simp [h.ab, h.ac, h.bc], rfl, fun i o hi => by
 match i, hi with
 | 0, hi => cases hi; exact ⟨rfl, h.d0⟩
 | 1, hi => cases hi; exact ⟨rfl, h.l0⟩
 | 2, hi => cases hi; exact ⟨rfl, h.r0⟩⟩
theorem AC.lg {args : List AV} {T : Store} {d d' : Dk} {n : Int} {rows rows' : List By} {v : AV} {a b c : Nat} (hl : LgAt T a b c d n rows) (h : AC P f (.ptr 1 0 :: args) (LG d n rows) v (LG d' n rows'))
  (ha : args.all (AV.ok 0) = true) (hv : v.ok 0 = true) : AC P f (.ptr b 0 :: args) T v (((T.set a (XD d')).set b (.cells [.ptr a 0, .it .i64 n, .sl (.own c) (rows'.map .st)])).set c (.buf rows'.length 9 1)) := by
 have ha1 : ∀ u ∈ args, u.ok 3 = true := fun u hu => ok_mono (List.all_eq_true.1 ha u hu) (Nat.zero_le 3)
 have := h.frame (T := T) [a, b, c] hl.sub (by simp only [List.all_cons, Bool.and_eq_true]; exact ⟨rfl, List.all_eq_true.2 ha1⟩) (ok_mono hv (Nat.zero_le 3)) (lg_ok _ _ _)
 rw [List.map_cons, ren_all ha, ren_id hv (fun i hi => absurd hi (Nat.not_lt_zero _))] at this
 simpa [after, setAll, ext, idx, SObj.ren, AV.r1, AV.r0, Mode.ren, AV.ren, AV.r2] using this
theorem AC.lo {T : Store} {d d' : Dk} {n : Int} {rows : List By} {a : Nat} (hT : T[a]? = some (XD d)) (h : AC P f [.ptr 0 0, .it .i64 n] [XD d] (.tup [.ptr 1 0, .it .i64 0]) (LG d' n rows)) :
  AC P f [.ptr a 0, .it .i64 n] T (.tup [.ptr T.length 0, .it .i64 0]) (T.set a (XD d') ++ [.cells [.ptr a 0, .it .i64 n, .sl (.own (T.length + 1)) (rows.map .st)], .buf rows.length 9 1]) := by
 have := h.frame (T := T) [a] (subOk_one a rfl hT) rfl rfl (lg_ok _ _ _)
 simpa [after, setAll, ext, idx, SObj.ren, AV.r1, AV.r0, Mode.ren, AV.ren, AV.r2] using this
theorem clg {args gargs : List AV} {T : Store} {d d' : Dk} {n : Int} {rows rows' : List By} {v : AV} (a b c : Nat) (h : AC P f (.ptr 1 0 :: args) (LG d n rows) v (LG d' n rows'))
  (h' : ARg P pf rf rest (put e dst v) (((T.set a (XD d')).set b (.cells [.ptr a 0, .it .i64 n, .sl (.own c) (rows'.map .st)])).set c (.buf rows'.length 9 1)) K)
  (hl : LgAt T a b c d n rows := by exact ⟨by decide, by decide, by decide, rfl, rfl, rfl⟩) (ha : args.all (AV.ok 0) = true := by rfl) (hv : v.ok 0 = true := by rfl) (hg : gargs.map AV.wk = .ptr b 0 :: args := by rfl) :
  callP (AnyC P f gargs T) (ARgk P pf rf dst rest e K) := call_mk (show AC P f (gargs.map AV.wk) T v _ by rw [hg]; exact AC.lg hl h ha hv) h'
theorem clo {gargs : List AV} {T : Store} {d d' : Dk} {n : Int} {rows : List By} (a : Nat) (h : AC P f [.ptr 0 0, .it .i64 n] [XD d] (.tup [.ptr 1 0, .it .i64 0]) (LG d' n rows))
  (h' : ARg P pf rf rest (put e dst (.tup [.ptr T.length 0, .it .i64 0])) (T.set a (XD d') ++ [.cells [.ptr a 0, .it .i64 n, .sl (.own (T.length + 1)) (rows.map .st)], .buf rows.length 9 1]) K)
  (hT : T[a]? = some (XD d) := by rfl) (hg : gargs.map AV.wk = [.ptr a 0, .it .i64 n] := by rfl) :
  callP (AnyC P f gargs T) (ARgk P pf rf dst rest e K) := call_mk (show AC P f (gargs.map AV.wk) T _ _ by rw [hg]; exact AC.lo hT h) h'
end
end Go.Proofs.YtlefikdjhnaapaaGreatDoor.Pe
end
section
namespace Go.Proofs.YtlefikdjhnaapaaGreatDoor.Pe
open Go Go.RowKit Co Sg Ac It Sl Wl Ql
set_option maxRecDepth 100000
set_option maxHeartbeats 4000000
abbrev mapE (l : List By) : SObj := .map (l.map fun s => (.st s, .bo true))
theorem mapE_ok (n : Nat) (l : List By) : (mapE l).ok n = true := by
 show (l.map fun s => (AV.st s, AV.bo true)).all _ = true
 rw [List.all_map, List.all_eq_true]
 intro x _
 rfl
theorem mapE_ren (ρ : Nat → Nat) (l : List By) : (mapE l).ren ρ = mapE l := by
 show SObj.map _ = SObj.map _
 rw [List.map_map]
 rfl
abbrev SG (d : Dm.Dk) (f server : Int) (k : Key) (E : List It.Entry) (fl : Nat) : Store :=
 [XD d, .cells [.ptr 0 0, .it .i64 f, .sl (.own 2) ((rowsB E).map .st)], .buf E.length 9 1,
 .cells [.ptr 1 0, .it .i64 server, .it .i64 k.secret, .it .i64 k.pub, .sl (.own 4) (E.map entryV), .mp 5, .it .i64 (fl : Int)], .buf E.length 84 50, mapE (E.map dg)]
theorem sg_sub (d : Dm.Dk) (f server : Int) (k : Key) (E : List It.Entry) (fl : Nat) (T : Store) : SubOk (List.range 6) (SG d f server k E fl ++ T) (SG d f server k E fl) := ⟨by decide, rfl, fun i o hi => by
 match i, hi with
 | 0, hi => cases hi; exact ⟨rfl, rfl⟩
 | 1, hi => cases hi; exact ⟨rfl, rfl⟩
 | 2, hi => cases hi; exact ⟨rfl, rfl⟩
 | 3, hi => cases hi; exact ⟨rfl, rfl⟩
 | 4, hi => cases hi; exact ⟨rfl, rfl⟩
 | 5, hi => cases hi; exact ⟨mapE_ok _ _, congrArg some (mapE_ren _ _).symm⟩⟩
theorem sg_ok (d : Dm.Dk) (f server : Int) (k : Key) (E : List It.Entry) (fl : Nat) : ∀ (i : Nat) (o : SObj), (SG d f server k E fl)[i]? = some o → o.ok 6 = true := fun i o hi => by
 match i, hi with
 | 0, hi => cases hi; rfl
 | 1, hi => cases hi; rfl
 | 2, hi => cases hi; rfl
 | 3, hi => cases hi; rfl
 | 4, hi => cases hi; rfl
 | 5, hi => cases hi; exact mapE_ok _ _
theorem sclone_c (e : It.Entry) (h1 : e.item.act.to.length ≤ 1000000) (h2 : e.item.act.wraps.length ≤ 1000000) (h3 : e.item.decision.to.length ≤ 1000000) : AC Tryz.prog 77 [entryV e] [] (entryV e) [] := by
 refine AC.enter2 [132, 146] [] Tryz.func77 rfl (by decide) (by decide) znl (by kernel_rfl) ?_; refine zev ?_
 refine run ?_
 refine cp (cloneS_c e.item.act.to h1) ?_
 refine run ?_
 refine cp (cloneW_c e.item.act.wraps h2) ?_
 refine run ?_
 refine cp (cloneS_c e.item.decision.to h3) ?_
 refine run ?_
 exact er0
theorem sg_same (d : Dm.Dk) (f server : Int) (k : Key) (E : List It.Entry) (fl : Nat) : SubOk (List.range 6) (SG d f server k E fl) (SG d f server k E fl) := by
 have := sg_sub d f server k E fl []
 rwa [List.append_nil] at this
theorem lgs (d : Dm.Dk) (f server : Int) (k : Key) (E : List It.Entry) (fl : Nat) (T : Store) : LgAt (SG d f server k E fl ++ T) 0 1 2 d f (rowsB E) := ⟨by decide, by decide, by decide, rfl, rfl, by rw [List.length_map]; rfl⟩
theorem AC.sg {P : Program} [Tab] {F : FuncId} {args : List AV} {v : AV} {d d' : Dm.Dk} {f server : Int} {k : Key} {E E' : List It.Entry} {fl fl' : Nat} (h : AC P F args (SG d f server k E fl) v (SG d' f server k E' fl')) (T : Store)
  (ha : args.all (AV.ok 6) = true := by rfl) (hi : args.map (AV.ren (idx (List.range 6))) = args := by rfl) (hv : v.ok 6 = true := by rfl) (hr : v.ren (ext (List.range 6) (SG d f server k E fl ++ T).length) = v := by rfl) :
  AC P F args (SG d f server k E fl ++ T) v (SG d' f server k E' fl' ++ T) := by
 have q := h.frame (T := (SG d f server k E fl ++ T : Store)) (List.range 6) (sg_sub d f server k E fl T) ha hv (sg_ok _ _ _ _ _ _)
 rw [hi, hr] at q
 have e : after (List.range 6) (SG d f server k E fl ++ T : Store) (SG d' f server k E' fl') = (SG d' f server k E' fl' ++ T : Store) := by
  unfold after
  have h1 : (SG d' f server k E' fl').map (fun o => SObj.ren (ext (List.range 6) (SG d f server k E fl ++ T : Store).length) o) = SG d' f server k E' fl' := by
   show [_, _, _, _, _, SObj.ren _ (mapE _)] = _
   rw [mapE_ren]
   rfl
  rw [h1]
  show setAll _ _ _ ++ [] = _
  rw [List.append_nil]
  rfl
 rwa [e] at q
theorem slen_c (d : Dm.Dk) (f server : Int) (k : Key) (E : List It.Entry) (fl : Nat) : AC Tryz.prog 30 [.ptr 3 0] (SG d f server k E fl) (.it .i64 (fl : Int)) (SG d f server k E fl) := by
 refine AC.enter2 [] [] Tryz.func30 rfl (by decide) (by decide) znl (by kernel_rfl) ?_; refine zev ?_
 refine run ?_
 exact ends_ret (List.range 6) (by rfl) (sg_same ..) (by rfl) (by rfl) (by rfl)
theorem sflush_c (d : Dm.Dk) (f server : Int) (k : Key) (E : List It.Entry) (fl : Nat) : AC Tryz.prog 19 [.ptr 3 0] (SG d f server k E fl) (.it .i64 (Dm.flushD d f).1) (SG (Dm.flushD d f).2 f server k E (if (Dm.flushD d f).1 = 0 then E.length else fl)) := by
 refine AC.enter2 [] [] Tryz.func19 rfl (by decide) (by decide) znl (by kernel_rfl) ?_; refine zev ?_
 have kw := wflush_c d f (rowsB E)
 generalize Dm.flushD d f = q at *
 obtain ⟨en, d'⟩ := q
 simp only at kw ⊢
 refine run ?_
 refine clg 0 1 2 kw ?_ (hl := lgs ..)
 by_cases h0 : en = 0
 ·subst h0
  rw [if_pos rfl]
  refine run ?_
  exact ends_ret (List.range 6) (by rfl) (sg_same ..) (by rfl) (by rfl) (by rfl)
 ·rw [if_neg h0]
  refine runf @h0 ?_
  exact ends_ret (List.range 6) (by rfl) (sg_same ..) (by rfl) (by rfl) (by rfl)
theorem smhead_c (d : Dm.Dk) (f server : Int) (k : Key) (E : List It.Entry) (fl : Nat) (hk : -9223372036854775808 ≤ k.secret ∧ k.secret ≤ 9223372036854775807) (hl : E.length ≤ 1000000) (hz : ∀ e ∈ E, Iz e.item) (hf : fl ≤ E.length) :
  AC Tryz.prog 31 [.ptr 3 0] (SG d f server k E fl) (headV (headE k server E fl)) (SG d f server k E fl) := by
 refine AC.enter2 [38] [] Tryz.func31 rfl (by decide) (by decide) znl (by kernel_rfl) ?_; refine zev ?_
 have hsz : allSz 50 (E.map entryV) = true := entries_sz E
 have kh := shead_c k server (E.take fl) (lastT (E.take fl)) hk (by rw [List.length_take]; omega) (fun e he => hz e (List.mem_of_mem_take he))
 change AC _ _ _ _ (headV (headE k server E fl)) _ at kh
 generalize headE k server E fl = hd at *
 by_cases h0 : fl = 0
 ·subst h0
  refine run ?_
  refine cp kh ?_
  refine run ?_
  exact ends_ret (List.range 6) (by rfl) (sg_sub ..) (by rfl) (by rfl) (by rfl)
 ·have hg : E[fl - 1]? = some (E[fl - 1]'(by omega)) := List.getElem?_eq_getElem (by omega)
  have hlt : (E.take fl).getLast? = E[fl - 1]? := by
   rw [List.getLast?_eq_getElem?, List.length_take, Nat.min_eq_left hf, List.getElem?_take]
   rw [if_pos (by omega)]
  have hti : lastT (E.take fl) = (E[fl - 1]'(by omega)).time := by unfold lastT; rw [hlt, hg]
  rw [hti] at kh
  clear hlt hti
  generalize (E[fl - 1]'(by omega)) = x at *
  have e1 : (fl : Int) > 0 := by omega
  have hg' : E[((fl : Int) - 1).toNat]? = some x := by rw [show ((fl : Int) - 1).toNat = fl - 1 by omega]; exact hg
  have e2 : 0 ≤ (fl : Int) - 1 := by omega
  refine runf (an @e1 (an @e2 (an @hg' @hsz))) ?_
  refine cp kh ?_
  refine run ?_
  exact ends_ret (List.range 6) (by rfl) (sg_sub ..) (by rfl) (by rfl) (by rfl)
theorem kfind_noS (s : By) : ∀ (acc : List By) (i : Nat), s ∉ acc → kfind (.st s) (acc.map fun s => (.st s, .bo true)) i = some none
 | [], _, _ => rfl
 | x :: l, i, h => by
  rw [List.mem_cons, not_or] at h
  rw [List.map_cons]
  unfold kfind
  simp only [keq]
  rw [show (s == x) = false by simpa using h.1]
  exact kfind_noS s l (i + 1) h.2
theorem kfind_yesS (s : By) : ∀ (acc : List By) (i : Nat), s ∈ acc → ∃ j, kfind (.st s) (acc.map fun s => (.st s, .bo true)) i = some (some (j, .bo true))
 | x :: l, i, h => by
  rw [List.map_cons]
  unfold kfind
  simp only [keq]
  by_cases hx : s = x
  ·rw [show (s == x) = true by simpa using hx]
   exact ⟨i, rfl⟩
  ·rw [show (s == x) = false by simpa using hx]
   exact kfind_yesS s l (i + 1) ((List.mem_cons.1 h).resolve_left hx)
theorem sub6 {o0 o1 o2 o3 o4 m : SObj} (T : Store) (hm : m.ok 6 = true ∧ m.ren (idx (List.range 6)) = m) (h0 : o0.ok 6 = true ∧ o0.ren (idx (List.range 6)) = o0 := by exact ⟨rfl, rfl⟩) (h1 : o1.ok 6 = true ∧ o1.ren (idx (List.range 6)) = o1 := by exact ⟨rfl, rfl⟩)
  (h2 : o2.ok 6 = true ∧ o2.ren (idx (List.range 6)) = o2 := by exact ⟨rfl, rfl⟩) (h3 : o3.ok 6 = true ∧ o3.ren (idx (List.range 6)) = o3 := by exact ⟨rfl, rfl⟩) (h4 : o4.ok 6 = true ∧ o4.ren (idx (List.range 6)) = o4 := by exact ⟨rfl, rfl⟩) :
  SubOk (List.range 6) (o0 :: o1 :: o2 :: o3 :: o4 :: m :: T) [o0, o1, o2, o3, o4, m] := ⟨by decide, rfl, fun i o hi => by
 match i, hi with
 | 0, hi => obtain rfl : o0 = o := Option.some.inj hi; exact ⟨h0.1, congrArg some h0.2.symm⟩
 | 1, hi => obtain rfl : o1 = o := Option.some.inj hi; exact ⟨h1.1, congrArg some h1.2.symm⟩
 | 2, hi => obtain rfl : o2 = o := Option.some.inj hi; exact ⟨h2.1, congrArg some h2.2.symm⟩
 | 3, hi => obtain rfl : o3 = o := Option.some.inj hi; exact ⟨h3.1, congrArg some h3.2.symm⟩
 | 4, hi => obtain rfl : o4 = o := Option.some.inj hi; exact ⟨h4.1, congrArg some h4.2.symm⟩
 | 5, hi => obtain rfl : m = o := Option.some.inj hi; exact ⟨hm.1, congrArg some hm.2.symm⟩⟩
theorem mapE_snoc (l : List By) (x : By) : (SObj.map ((l.map fun s => (AV.st s, AV.bo true)) ++ [(.st x, .bo true)])).ok 6 = true ∧ (SObj.map ((l.map fun s => (AV.st s, AV.bo true)) ++ [(.st x, .bo true)])).ren (idx (List.range 6)) = (SObj.map ((l.map fun s => (AV.st s, AV.bo true)) ++ [(.st x, .bo true)])) := by
 have h : (SObj.map ((l.map fun s => (AV.st s, AV.bo true)) ++ [(.st x, .bo true)])) = mapE (l ++ [x]) := by simp
 rw [h]
 exact ⟨mapE_ok _ _, mapE_ren _ _⟩
theorem sadd_c (d : Dm.Dk) (f server : Int) (k : Key) (E : List It.Entry) (fl : Nat) (it : It.Item) (now : Int) (hz : Iz it) (hl : E.length ≤ 1000000) (hs : It.right it = true → it.act.to.length ≤ 1000000 ∧ it.act.wraps.length ≤ 1000000 ∧ it.decision.to.length ≤ 1000000) :
  AC Tryz.prog 17 [.ptr 3 0, itemV it, .it .i64 now] (SG d f server k E fl) (.tup [.it .i64 (saddD d f E it now).1.1, .it .i64 (saddD d f E it now).1.2]) (SG (saddD d f E it now).2.1 f server k (saddD d f E it now).2.2 fl) := by
 refine AC.enter2 [34, 36, 35, 77] [] Tryz.func17 rfl (by decide) (by decide) znl (by kernel_rfl) ?_; refine zev ?_
 have k1 := rightI_c it hz
 have hsz : allSz 50 (E.map entryV) = true := entries_sz E
 unfold saddD
 by_cases hr : It.right it = true
 rotate_left
 ·rw [if_neg (fun h => hr h.1)]
  have hr : It.right it = false := by simpa using hr
  rw [hr] at k1
  refine run ?_
  refine cp k1 ?_
  refine run ?_
  exact ends_ret (List.range 6) (by rfl) (sg_sub ..) (by rfl) (by rfl) (by rfl)
 obtain ⟨t1, t2, t3⟩ := hs hr
 rw [hr] at k1
 by_cases h0 : now < 0
 ·rw [if_neg (fun h => by omega)]
  refine run ?_
  refine cp k1 ?_
  refine runf @h0 ?_
  exact ends_ret (List.range 6) (by rfl) (sg_sub ..) (by rfl) (by rfl) (by rfl)
 by_cases h1 : now > 1099511627776
 ·rw [if_neg (fun h => by omega)]
  refine run ?_
  refine cp k1 ?_
  refine runf (an @h0 @h1) ?_
  exact ends_ret (List.range 6) (by rfl) (sg_sub ..) (by rfl) (by rfl) (by rfl)
 rw [if_pos ⟨hr, by omega⟩]
 have k2 := digest_c it hz
 by_cases hd : It.digest it ∈ E.map dg
 ·rw [if_pos hd]
  obtain ⟨j, hj⟩ := kfind_yesS _ _ 0 hd
  generalize It.digest it = dd at *
  refine run ?_
  refine cp k1 ?_
  refine runf (an @h0 @h1) ?_
  refine cp k2 ?_
  refine runf @hj ?_
  exact ends_ret (List.range 6) (by rfl) (sg_sub ..) (by rfl) (by rfl) (by rfl)
 rw [if_neg hd]
 have hj := kfind_noS _ _ 0 hd
 have he : It.Entry := ⟨nextT E now, it⟩
 have k3 := entryBytes_c ⟨nextT E now, it⟩ hz
 have k4 := sclone_c ⟨nextT E now, it⟩ t1 t2 t3
 have hle := entryB_len ⟨nextT E now, it⟩
 have k5 := wadd_c d f (rowsB E) (entryB ⟨nextT E now, it⟩) (by omega) (by rw [List.length_map]; omega)
 rcases List.eq_nil_or_concat E with rfl | ⟨E0, x, hEx⟩
 ·have hnx : nextT [] now = now := rfl
  rw [hnx] at k3 k4 k5 hle
  rw [hnx]
  refine run ?_
  refine cp k1 ?_
  refine runf (an @h0 @h1) ?_
  refine cp k2 ?_
  refine runf @hj ?_
  refine cp k4 ?_
  refine runf @hj ?_
  refine cp k3 ?_
  refine runf @hj ?_
  refine clg 0 1 2 k5 ?_ (hl := lgs d f server k [] fl _)
  have hdg : dg ⟨now, it⟩ = It.digest it := rfl
  clear k1 k2 k3 k4 k5 he hnx
  generalize addD d f (entryB ⟨now, it⟩) = q at *
  obtain ⟨en, d'⟩ := q
  simp only
  by_cases hen : en = 0
  ·subst hen
   rw [if_pos rfl]
   simp only [if_true, List.nil_append]
   unfold SG
   simp only [rowsB, mapE, List.map_cons, List.map_nil, List.length_cons, List.length_nil]
   generalize entryB ⟨now, it⟩ = eb at *
   refine runf (an @hj @hsz) ?_
   refine ends_ret (List.range 6) (by rfl) ?_ (by rfl) (by rfl) (by rfl)
   refine sub6 _ (mapE_snoc [] _) ?_ ?_ ?_ ?_ ?_ <;> exact ⟨rfl, rfl⟩
  ·rw [if_neg hen]
   simp only [if_neg hen]
   refine runf @hen ?_
   refine ends_ret (List.range 6) (by rfl) ?_ (by rfl) (by rfl) (by rfl)
   refine sub6 _ ⟨mapE_ok 6 [], mapE_ren _ []⟩ ?_ ?_ ?_ ?_ ?_ <;> exact ⟨rfl, rfl⟩
 ·rw [List.concat_eq_append] at hEx
  subst hEx
  have e3 : (E0 ++ [x]).length = E0.length + 1 := by simp
  have e4 : ((E0 ++ [x]).length : Int) > 0 := by omega
  have hg : (E0 ++ [x])[(((E0 ++ [x]).length : Int) - 1).toNat]? = some x := by
   rw [show (((E0 ++ [x]).length : Int) - 1).toNat = E0.length by omega]; simp
  have e5 : 0 ≤ ((E0 ++ [x]).length : Int) - 1 := by omega
  have hnx : (if x.time > now then x.time else now) = nextT (E0 ++ [x]) now := by
   unfold nextT
   rw [List.getLast?_append]
   simp only [List.getLast?_singleton, Option.some_or]
   split <;> omega
  have hft : fits ((E0 ++ [x]).length + 1) 800 = true := by apply fits_ok <;> omega
  clear e3
  generalize E0 ++ [x] = E at *
  refine run ?_
  refine cp k1 ?_
  refine runf (an @h0 @h1) ?_
  refine cp k2 ?_
  refine runf (an @hj (an @e4 (an @e5 (an @hg (an @hsz @hnx))))) ?_
  refine cp k4 ?_
  refine runf @hj ?_
  refine cp k3 ?_
  refine runf @hj ?_
  refine clg 0 1 2 k5 ?_ (hl := lgs ..)
  have hdg : dg ⟨nextT E now, it⟩ = It.digest it := rfl
  have hft2 : fits (E.length + 1) 800 = true := hft
  clear k1 k2 k3 k4 k5 he hnx
  generalize addD d f (entryB ⟨nextT E now, it⟩) = q at *
  obtain ⟨en, d'⟩ := q
  simp only
  have f1 : rowsB (E ++ [(⟨nextT E now, it⟩ : It.Entry)]) = rowsB E ++ [entryB ⟨nextT E now, it⟩] := by rw [rowsB, List.map_append]; rfl
  have f2 : (E ++ [(⟨nextT E now, it⟩ : It.Entry)]).length = E.length + 1 := by simp
  have f3 : (E ++ [(⟨nextT E now, it⟩ : It.Entry)]).map entryV = E.map entryV ++ [entryV ⟨nextT E now, it⟩] := by rw [List.map_append]; rfl
  have f4 : mapE ((E ++ [(⟨nextT E now, it⟩ : It.Entry)]).map dg) = .map (((E.map dg).map fun s => (AV.st s, AV.bo true)) ++ [(.st (It.digest it), .bo true)]) := by rw [List.map_append]; simp [dg]
  by_cases hen : en = 0
  ·subst hen
   rw [if_pos rfl]
   simp only [if_true]
   unfold SG
   rw [f1, f2, f3, f4]
   generalize nextT E now = nt at *
   generalize It.digest it = dd at *
   refine runf (an @hj (an @hft @hsz)) ?_
   refine ends_ret (List.range 6) (by rfl) ?_ (by rfl) (by rfl) (by rfl)
   refine sub6 _ (mapE_snoc _ _) ?_ ?_ ?_ ?_ ?_ <;> exact ⟨rfl, rfl⟩
  ·rw [if_neg hen]
   simp only [if_neg hen]
   refine runf @hen ?_
   exact ends_ret (List.range 6) (by rfl) (sg_sub ..) (by rfl) (by rfl) (by rfl)
end Go.Proofs.YtlefikdjhnaapaaGreatDoor.Pe
end
section
namespace Go.Proofs.YtlefikdjhnaapaaGreatDoor.Pe
open Go Go.RowKit Co Sg Ac It Sl Wl Ql
set_option maxRecDepth 100000
set_option maxHeartbeats 4000000
theorem ends_retw {P : Program} [Tab] {rs : List ResultVar} {v : AV} {e : Env} {S S' : Store} {vs : List AV} {N0 : Nat} (κ : List Nat) (h : aRes P rs e S = some vs) (hs : SubOk κ S S') (hn : κ.take N0 = List.range N0) (hk : v.ok κ.length = true) (hv : (resV vs).wk = v.ren (idx κ)) : finQ P rs N0 v S' .ret e S :=
 ⟨e, S, vs, κ, Weak.refl N0 e S, h, hs, hn, hk, .inr hv⟩
theorem right_small {i : It.Item} (h : It.right i = true) : i.act.to.length ≤ 1000000 ∧ i.act.wraps.length ≤ 1000000 ∧ i.decision.to.length ≤ 1000000 := by
 have p := right_parts h
 have d := (ezd p.2.2.2).2.1.1
 rcases p.1 with e | e
 ·have h1 := (right_sm e).to.1
  have h2 := (right_sm e).wraps.1
  omega
 ·have h1 : i.act.to = [] := by rw [e]; rfl
  have h2 : i.act.wraps = [] := by rw [e]; rfl
  rw [h1, h2]
  simp only [List.length_nil]
  omega
theorem so_sub (d : Dm.Dk) (f server : Int) (k : Key) (E : List It.Entry) (fl : Nat) (o : SObj) (T : Store) : SubOk [0, 2, 3, 5, 6, 4] (XD d :: o :: .cells [.ptr 0 0, .it .i64 f, .sl (.own 3) ((rowsB E).map .st)] :: .buf E.length 9 1 :: mapE (E.map dg) :: .cells [.ptr 2 0, .it .i64 server, .it .i64 k.secret, .it .i64 k.pub, .sl (.own 6) (E.map entryV), .mp 4, .it .i64 (fl : Int)] :: .buf E.length 84 50 :: T) (SG d f server k E fl) := ⟨by decide, rfl, fun i o hi => by
 match i, hi with
 | 0, hi => cases hi; exact ⟨rfl, rfl⟩
 | 1, hi => cases hi; exact ⟨rfl, rfl⟩
 | 2, hi => cases hi; exact ⟨rfl, rfl⟩
 | 3, hi => cases hi; exact ⟨rfl, rfl⟩
 | 4, hi => cases hi; exact ⟨rfl, rfl⟩
 | 5, hi => cases hi; exact ⟨mapE_ok _ _, congrArg some (mapE_ren _ _).symm⟩⟩
theorem sopen_nil_c (d d' : Dm.Dk) (f server : Int) (k : Key) (hk : k.right = true) (hr : -9223372036854775808 ≤ k.secret ∧ k.secret ≤ 9223372036854775807) (hs : 0 ≤ server ∧ server ≤ 19) (hf : 0 ≤ f ∧ f ≤ 6) (he : openD d f = (0, d')) (hp : (Dm.peek d f).1 = []) :
  AC Tryz.prog 14 [.ptr 0 0, .it .i64 f, .it .i64 server, keyV k] [XD d] (.tup [.ptr 3 0, .it .i64 0]) (SG d' f server k [] 0) := by
 refine AC.enter2 [54, 70, 36, 46] [] Tryz.func14 rfl (by decide) (by decide) znl (by kernel_rfl) ?_; refine zev ?_
 have k1 := keyright_c k hr
 rw [hk] at k1
 have k2 := wopen_ok d f hf (by rw [hp]; decide) (by rw [he])
 rw [he, hp] at k2
 change AC _ _ _ _ _ (LG d' f []) at k2
 have k3 := wall_c d' f [] (by decide)
 have k4 := stimes_c [] (by decide)
 change AC _ _ _ _ (.bo true) _ at k4
 have e1 : ¬ server < 0 := by omega
 have e2 : ¬ server ≥ 20 := by omega
 refine runf (an @e1 @e2) ?_
 refine cp k1 ?_
 refine runf (an @e1 @e2) ?_
 refine clo 0 k2 ?_
 refine run ?_
 refine clg 0 2 3 k3 ?_
 refine run ?_
 refine loop_mk' (fun m e S => e 12 = .ptr 5 0 ∧ e 48 = .sl .ro [] ∧ e 49 = .it .i64 0 ∧ e 50 = .it .i64 0 ∧ S = (XD d' :: .cells [.it .i64 k.secret, .it .i64 k.pub] :: .cells [.ptr 0 0, .it .i64 f, .sl (.own 3) ((rowsB []).map .st)] :: .buf ([] : List It.Entry).length 9 1 :: mapE (([] : List It.Entry).map dg) :: .cells [.ptr 2 0, .it .i64 server, .it .i64 k.secret, .it .i64 k.pub, .sl (.own 6) (([] : List It.Entry).map entryV), .mp 4, .it .i64 ((0 : Nat) : Int)] :: .buf ([] : List It.Entry).length 84 50 :: []) ∧ m = 0) 0 _ _ (Weak.reserveN 1 5 4 (es := []) (by rfl) (by rfl) 84 50) ⟨zsl, zsl, zsl, zsl, rfl, rfl⟩ ?_
 rintro m e S ⟨s12, s48, s49, s50, rfl, rfl⟩
 refine runf (an @s12 (an @s48 (an @s49 @s50))) ?_
 refine cp k4 ?_
 refine runf @s12 ?_
 refine ends_ret [0, 2, 3, 5, 6, 4] (by rfl) ?_ (by rfl) (by rfl) (by rfl)
 exact so_sub d' f server k [] 0 _ []
theorem sentries_c (d : Dm.Dk) (f server : Int) (k : Key) (E : List It.Entry) (fl : Nat) (frm n : Int) (hl : E.length ≤ 1000000) (hf : fl ≤ E.length) (hz : ∀ e ∈ E, It.right e.item = true) :
  AC Tryz.prog 28 [.ptr 3 0, .it .i64 frm, .it .i64 n] (SG d f server k E fl) (entriesV (windowE E fl frm n)) (SG d f server k E fl) := by
 refine AC.enter2 [77] [] Tryz.func28 rfl (by decide) (by decide) znl (by kernel_rfl) ?_; refine zev ?_
 have hsz : allSz 50 (E.map entryV) = true := entries_sz E
 have e0 : (if 0 > frm then 0 else frm) = (frm.toNat : Int) := by split <;> omega
 have hw0 : windowE E fl frm n = if n ≤ 0 then [] else ((E.take fl).drop frm.toNat).take n.toNat := rfl
 generalize frm.toNat = a at *
 by_cases ha : fl ≤ a
 ·have hw : windowE E fl frm n = [] := by
   rw [hw0]
   split
   ·rfl
   ·rw [List.drop_eq_nil_of_le (by rw [List.length_take]; omega), List.take_nil]
  rw [hw]
  have e1 : (a : Int) ≥ (fl : Int) := by omega
  refine runf (an @e0 @e1) ?_
  exact ends_retw (List.range 6) (by rfl) (sg_same ..) (by rfl) (by rfl) (by rfl)
 have e1 : ¬ (a : Int) ≥ (fl : Int) := by omega
 by_cases hn : n ≤ 0
 ·rw [if_pos hn] at hw0
  rw [hw0]
  refine runf (an @e0 (an @e1 @hn)) ?_
  exact ends_retw (List.range 6) (by rfl) (sg_same ..) (by rfl) (by rfl) (by rfl)
 rw [if_neg hn] at hw0
 have hmn : (if (fl : Int) - (a : Int) < n then (fl : Int) - (a : Int) else n) = ((min n.toNat (fl - a) : Nat) : Int) := by split <;> omega
 generalize hb : min n.toNat (fl - a) = b at *
 have hww : windowE E fl frm n = (E.drop a).take b := by
  rw [hw0, List.drop_take, List.take_take, hb]
 rw [hww]
 have e2 : (a : Int) + (b : Int) = ((a + b : Nat) : Int) := by omega
 have e3 : a + b ≤ E.length := by omega
 have e4 : a ≤ a + b := by omega
 have hdt : (E.take (a + b)).drop a = (E.drop a).take b := by rw [List.drop_take]; congr 1; omega
 refine runf (an @e0 (an @e1 (an @hn (an @hmn (an @e2 (an @e3 (an @e4 (an @hsz @hdt)))))))) ?_
 have hWl : ((E.drop a).take b).length = b := by rw [List.length_take, List.length_drop]; omega
 have hzW : ∀ e ∈ (E.drop a).take b, It.right e.item = true := fun e he => hz e (List.mem_of_mem_drop (List.mem_of_mem_take he))
 clear hww hdt hw0
 generalize (E.drop a).take b = W at *
 have hsW : allSz 50 (W.map entryV) = true := entries_sz W
 refine loop_mk (fun m e S => e 40 = entriesV W ∧ e 41 = .it .i64 (W.length : Int) ∧ ∃ (j : Nat) (T : Store), e 42 = .it .i64 (j : Int) ∧ e 7 = .sl (.own 6) ((W.take j).map entryV) ∧ S = SG d f server k E fl ++ (.buf j 84 50 :: T) ∧ j ≤ W.length ∧ m = W.length - j) W.length
  ⟨zsl, zsl, 0, [], zsl, zsl, rfl, Nat.zero_le _, rfl⟩ ?_
 rintro m e S ⟨s40, s41, j, T, s42, s7, rfl, hj, rfl⟩
 have hT1 : ∀ y : SObj, (T ++ [y])[T.length]? = some y := fun y => by simp
 have hT2 : ∀ y z : SObj, (T ++ [y]).set T.length z = T ++ [z] := fun y z => by simp
 by_cases hlt : j < W.length
 ·have hg : W[j]? = some W[j] := List.getElem?_eq_getElem hlt
  have hx := hzW W[j] (List.getElem_mem hlt)
  have ht : (W.take (j + 1)).map entryV = (W.take j).map entryV ++ [entryV W[j]] := by rw [List.take_succ_eq_append_getElem hlt, List.map_append]; rfl
  have hal : (W.take j).length = j := by rw [List.length_take]; omega
  have hft : fits (j + 1) 800 = true := by apply fits_ok <;> omega
  generalize W[j] = x at *
  obtain ⟨t1, t2, t3⟩ := right_small hx
  have kc := sclone_c x t1 t2 t3
  refine runf (an @s40 (an @s41 (an @s42 (an @s7 (an @hg (an @hsW (an @hT1 @hT2))))))) ?_
  refine cp kc ?_
  have hsz3 := entries_sz (W.take j)
  refine runf (an @s40 (an @s41 (an @s42 (an @s7 (an @hft (an @hal @hsz3)))))) ?_
  exact round_mk (W.length - (j + 1)) (by omega) ⟨zsl, zsl, j + 1, _, zsl, (by rw [ht]; exact zsl), rfl, by omega, rfl⟩
 ·obtain rfl : j = W.length := by omega
  rw [List.take_length] at s7
  refine runf (an @s40 (an @s41 (an @s42 @s7))) ?_
  exact ends_retw (List.range 6) (by rfl) (sg_sub d f server k E fl (_ :: T)) (by rfl) (by rfl) (by rfl)
end Go.Proofs.YtlefikdjhnaapaaGreatDoor.Pe
end
section
namespace Go.Proofs.YtlefikdjhnaapaaGreatDoor.Pe
open Go Go.RowKit Co Sg Ac It Sl Wl Ql
set_option maxRecDepth 100000
set_option maxHeartbeats 4000000
section
variable {P : Program} {pf rf : List FuncId} {e : Env} {F : FuncId} {dst : Option Nat} {rest : List AO} {K : Env → Store → Prop}
structure SgAt (T : Store) (a b c s u m : Nat) (d : Dm.Dk) (f server : Int) (k : Key) (E : List It.Entry) (fl : Nat) : Prop where
 nd : [a, b, c, s, u, m].Nodup
 p0 : T[a]? = some (XD d)
 p1 : T[b]? = some (.cells [.ptr a 0, .it .i64 f, .sl (.own c) ((rowsB E).map .st)])
 p2 : T[c]? = some (.buf E.length 9 1)
 p3 : T[s]? = some (.cells [.ptr b 0, .it .i64 server, .it .i64 k.secret, .it .i64 k.pub, .sl (.own u) (E.map entryV), .mp m, .it .i64 (fl : Int)])
 p4 : T[u]? = some (.buf E.length 84 50)
 p5 : T[m]? = some (mapE (E.map dg))
theorem SgAt.sub {T : Store} {a b c s u m : Nat} {d : Dm.Dk} {f server : Int} {k : Key} {E : List It.Entry} {fl : Nat} (h : SgAt T a b c s u m d f server k E fl) : SubOk [a, b, c, s, u, m] T (SG d f server k E fl) := ⟨h.nd, rfl, fun i o hi => by
 match i, hi with
 | 0, hi => cases hi; exact ⟨rfl, h.p0⟩
 | 1, hi => cases hi; exact ⟨rfl, h.p1⟩
 | 2, hi => cases hi; exact ⟨rfl, h.p2⟩
 | 3, hi => cases hi; exact ⟨rfl, h.p3⟩
 | 4, hi => cases hi; exact ⟨rfl, h.p4⟩
 | 5, hi => cases hi; exact ⟨mapE_ok _ _, h.p5.trans (congrArg some (mapE_ren _ _).symm)⟩⟩
theorem AC.sgs {args : List AV} {T : Store} {d d' : Dm.Dk} {f server : Int} {k : Key} {E E' : List It.Entry} {fl fl' : Nat} {v : AV} {a b c s u m : Nat} (hl : SgAt T a b c s u m d f server k E fl) (h : AC P F (.ptr 3 0 :: args) (SG d f server k E fl) v (SG d' f server k E' fl'))
  (ha : args.all (AV.ok 0) = true) (hv : v.ok 0 = true) : AC P F (.ptr s 0 :: args) T v ((((((T.set a (XD d')).set b (.cells [.ptr a 0, .it .i64 f, .sl (.own c) ((rowsB E').map .st)])).set c (.buf E'.length 9 1)).set s (.cells [.ptr b 0, .it .i64 server, .it .i64 k.secret, .it .i64 k.pub, .sl (.own u) (E'.map entryV), .mp m, .it .i64 (fl' : Int)])).set u (.buf E'.length 84 50)).set m (mapE (E'.map dg))) := by
 have ha1 : ∀ w ∈ args, w.ok 6 = true := fun w hw => ok_mono (List.all_eq_true.1 ha w hw) (Nat.zero_le 6)
 have := h.frame (T := T) [a, b, c, s, u, m] hl.sub (by simp only [List.all_cons, Bool.and_eq_true]; exact ⟨rfl, List.all_eq_true.2 ha1⟩) (ok_mono hv (Nat.zero_le 6)) (sg_ok _ _ _ _ _ _)
 rw [List.map_cons, ren_all ha, ren_id hv (fun i hi => absurd hi (Nat.not_lt_zero _))] at this
 have hM : ∀ ρ, (mapE (E'.map dg)).ren ρ = mapE (E'.map dg) := fun ρ => mapE_ren ρ _
 unfold SG at this
 generalize mapE (E'.map dg) = M at *
 simp only [after, List.map_cons, List.drop_succ_cons, List.drop_zero, List.length_cons, List.length_nil, hM] at this
 simpa [after, setAll, ext, idx, SObj.ren, AV.r1, AV.r0, Mode.ren, AV.ren, AV.r2] using this
theorem csg {args gargs : List AV} {T : Store} {d d' : Dm.Dk} {f server : Int} {k : Key} {E E' : List It.Entry} {fl fl' : Nat} {v : AV} (a b c s u m : Nat) (h : AC P F (.ptr 3 0 :: args) (SG d f server k E fl) v (SG d' f server k E' fl'))
  (h' : ARg P pf rf rest (put e dst v) ((((((T.set a (XD d')).set b (.cells [.ptr a 0, .it .i64 f, .sl (.own c) ((rowsB E').map .st)])).set c (.buf E'.length 9 1)).set s (.cells [.ptr b 0, .it .i64 server, .it .i64 k.secret, .it .i64 k.pub, .sl (.own u) (E'.map entryV), .mp m, .it .i64 (fl' : Int)])).set u (.buf E'.length 84 50)).set m (mapE (E'.map dg))) K)
  (hl : SgAt T a b c s u m d f server k E fl := by exact ⟨by decide, rfl, rfl, rfl, rfl, rfl, rfl⟩) (ha : args.all (AV.ok 0) = true := by rfl) (hv : v.ok 0 = true := by rfl) (hg : gargs.map AV.wk = .ptr s 0 :: args := by rfl) :
  callP (AnyC P F gargs T) (ARgk P pf rf dst rest e K) := call_mk (show AC P F (gargs.map AV.wk) T v _ by rw [hg]; exact AC.sgs hl h ha hv) h'
theorem AC.so {T : Store} {d d' : Dm.Dk} {f server : Int} {k : Key} {E : List It.Entry} {fl : Nat} {a : Nat} (hT : T[a]? = some (XD d)) (h : AC P F [.ptr 0 0, .it .i64 f, .it .i64 server, keyV k] [XD d] (.tup [.ptr 3 0, .it .i64 0]) (SG d' f server k E fl)) :
  AC P F [.ptr a 0, .it .i64 f, .it .i64 server, keyV k] T (.tup [.ptr (T.length + 2) 0, .it .i64 0]) (T.set a (XD d') ++ [.cells [.ptr a 0, .it .i64 f, .sl (.own (T.length + 1)) ((rowsB E).map .st)], .buf E.length 9 1, .cells [.ptr T.length 0, .it .i64 server, .it .i64 k.secret, .it .i64 k.pub, .sl (.own (T.length + 3)) (E.map entryV), .mp (T.length + 4), .it .i64 (fl : Int)], .buf E.length 84 50, mapE (E.map dg)]) := by
 have := h.frame (T := T) [a] (subOk_one a rfl hT) rfl rfl (sg_ok _ _ _ _ _ _)
 have hM : ∀ ρ, (mapE (E.map dg)).ren ρ = mapE (E.map dg) := fun ρ => mapE_ren ρ _
 unfold SG at this
 generalize mapE (E.map dg) = M at *
 simp only [after, List.map_cons, List.drop_succ_cons, List.drop_zero, List.length_cons, List.length_nil, hM] at this
 simpa [after, setAll, ext, idx, SObj.ren, AV.r1, AV.r0, Mode.ren, AV.ren, AV.r2] using this
theorem cso {gargs : List AV} {T : Store} {d d' : Dm.Dk} {f server : Int} {k : Key} {E : List It.Entry} {fl : Nat} (a : Nat) (h : AC P F [.ptr 0 0, .it .i64 f, .it .i64 server, keyV k] [XD d] (.tup [.ptr 3 0, .it .i64 0]) (SG d' f server k E fl))
  (h' : ARg P pf rf rest (put e dst (.tup [.ptr (T.length + 2) 0, .it .i64 0])) (T.set a (XD d') ++ [.cells [.ptr a 0, .it .i64 f, .sl (.own (T.length + 1)) ((rowsB E).map .st)], .buf E.length 9 1, .cells [.ptr T.length 0, .it .i64 server, .it .i64 k.secret, .it .i64 k.pub, .sl (.own (T.length + 3)) (E.map entryV), .mp (T.length + 4), .it .i64 (fl : Int)], .buf E.length 84 50, mapE (E.map dg)]) K)
  (hT : T[a]? = some (XD d) := by rfl) (hg : gargs.map AV.wk = [.ptr a 0, .it .i64 f, .it .i64 server, keyV k] := by rfl) :
  callP (AnyC P F gargs T) (ARgk P pf rf dst rest e K) := call_mk (show AC P F (gargs.map AV.wk) T _ _ by rw [hg]; exact AC.so hT h) h'
end
end Go.Proofs.YtlefikdjhnaapaaGreatDoor.Pe
end
section
namespace Go.Proofs.YtlefikdjhnaapaaGreatDoor.Pe
open Go Go.RowKit Co Sg Ac It
set_option maxRecDepth 100000
set_option maxHeartbeats 4000000
structure InL (l : List Int) : Prop where
 len : l.length ≤ 140737488351232
 rng : ∀ i ∈ l, -9223372036854775808 ≤ i ∧ i ≤ 9223372036854775807
structure InE (e : It.Entry) : Prop where
 time : -9223372036854775808 ≤ e.time ∧ e.time ≤ 9223372036854775807
 item : InI e.item
theorem shp_entryI {n us} (h : shp Tryz.prog 140737488351232 (n + 7) 84 us) : ∃ e : It.Entry, us = (entryV e).cells ∧ InE e := by
 have h := shp_struct Tryz.underlying84 h
 obtain ⟨a0, b0, rfl, h0, h⟩ := h
 obtain ⟨a1, b1, rfl, h1, rfl⟩ := h
 obtain ⟨time, rfl, w0⟩ := shp_i64 Tryz.underlying3 h0
 obtain ⟨i, rfl, w1⟩ := shp_itemI h1
 exact ⟨⟨time, i⟩, rfl, w0, w1⟩
theorem shp_entriesI {n us} (h : shp Tryz.prog 140737488351232 (n + 8) 68 us) : ∃ l : List It.Entry, us = [.sl .ro (l.map entryV)] ∧ l.length ≤ 140737488351232 ∧ ∀ e ∈ l, InE e :=
 shp_slice entryV InE Tryz.underlying68 h fun x hx => by
  obtain ⟨w, rfl, hw⟩ := shp_entryI hx
  exact ⟨w, by rw [show aggT Tryz.prog 84 = true from by kernel_rfl]; rfl, hw⟩
end Go.Proofs.YtlefikdjhnaapaaGreatDoor.Pe
end
section
namespace Go.Proofs.YtlefikdjhnaapaaGreatDoor.Pe
open Go Go.RowKit Co Sg Ac It Sl
set_option maxRecDepth 100000
set_option maxHeartbeats 4000000
theorem shp_head {n us} (h : shp Tryz.prog 140737488351232 (n + 3) 75 us) : ∃ e : Head, us = (headV e).cells ∧ ((-9223372036854775808 ≤ e.server ∧ e.server ≤ 9223372036854775807) ∧ (-9223372036854775808 ≤ e.size ∧ e.size ≤ 9223372036854775807) ∧ (-9223372036854775808 ≤ e.time ∧ e.time ≤ 9223372036854775807) ∧ e.root.length ≤ 140737488351232 ∧ (-9223372036854775808 ≤ e.sig.e ∧ e.sig.e ≤ 9223372036854775807) ∧ (-9223372036854775808 ≤ e.sig.s ∧ e.sig.s ≤ 9223372036854775807)) := by
 have h := shp_struct Tryz.underlying75 h
 obtain ⟨a0, b0, rfl, h0, h⟩ := h
 obtain ⟨a1, b1, rfl, h1, h⟩ := h
 obtain ⟨a2, b2, rfl, h2, h⟩ := h
 obtain ⟨a3, b3, rfl, h3, h⟩ := h
 obtain ⟨a4, b4, rfl, h4, rfl⟩ := h
 obtain ⟨server, rfl, w0⟩ := shp_i64 Tryz.underlying3 h0
 obtain ⟨size, rfl, w1⟩ := shp_i64 Tryz.underlying3 h1
 obtain ⟨root, rfl, w2⟩ := shp_str Tryz.underlying9 h2
 obtain ⟨time, rfl, w3⟩ := shp_i64 Tryz.underlying3 h3
 obtain ⟨sg, rfl, w4, w5⟩ := shp_sigI h4
 exact ⟨⟨server, size, root, time, sg⟩, rfl, w0, w1, w3, w2, w4, w5⟩
end Go.Proofs.YtlefikdjhnaapaaGreatDoor.Pe
end
section
namespace Go.Proofs.YtlefikdjhnaapaaGreatDoor.Pe
open Go Go.RowKit Co Sg Ac It Sl
set_option maxRecDepth 100000
structure Cs where
 g : Head
 h : Head
 key : Key
 list : List It.Entry
 text : By
 server : Int
 time : Int
abbrev caseL (c : Cs) : List AV := [.it .i64 c.g.server, .it .i64 c.g.size, .st c.g.root, .it .i64 c.g.time, .it .i64 c.g.sig.e, .it .i64 c.g.sig.s, .it .i64 c.h.server, .it .i64 c.h.size, .st c.h.root, .it .i64 c.h.time, .it .i64 c.h.sig.e, .it .i64 c.h.sig.s, .it .i64 c.key.secret, .it .i64 c.key.pub, .sl .ro (c.list.map entryV), .st c.text, .it .i64 c.server, .it .i64 c.time]
abbrev headL (h : Head) : List AV := [.it .i64 h.server, .it .i64 h.size, .st h.root, .it .i64 h.time, .it .i64 h.sig.e, .it .i64 h.sig.s]
abbrev caseV (c : Cs) : AV := .agg [.it .i64 c.g.server, .it .i64 c.g.size, .st c.g.root, .it .i64 c.g.time, .it .i64 c.g.sig.e, .it .i64 c.g.sig.s, .it .i64 c.h.server, .it .i64 c.h.size, .st c.h.root, .it .i64 c.h.time, .it .i64 c.h.sig.e, .it .i64 c.h.sig.s, .it .i64 c.key.secret, .it .i64 c.key.pub, .sl .ro (c.list.map entryV), .st c.text, .it .i64 c.server, .it .i64 c.time]
end Go.Proofs.YtlefikdjhnaapaaGreatDoor.Pe
end
section
namespace Go.Proofs.YtlefikdjhnaapaaGreatDoor.Pe
open Go Go.RowKit Co Sg Ac It Sl Wl Ql
set_option maxRecDepth 100000
set_option maxHeartbeats 4000000
def bgnId : Nat → By
 | 0 => [48, 48, 48, 48, 48, 48, 48, 48, 48, 48, 48, 48, 48, 48, 97, 49]
 | 1 => [48, 48, 48, 48, 48, 48, 48, 48, 48, 48, 48, 48, 48, 48, 98, 50]
 | _ => [48, 48, 48, 48, 48, 48, 48, 48, 48, 48, 48, 48, 48, 48, 99, 51]
def bgn (n : Nat) : It.Item := ofAct { act0 with author := bgnId n, text := [110, 97, 109, 101], n := 37 }
theorem bgn0_right : It.right (bgn 0) = true := by decide +kernel
theorem bgn1_right : It.right (bgn 1) = true := by decide +kernel
theorem bgn_ne : It.digest (bgn 1) ≠ It.digest (bgn 0) := by decide +kernel
theorem begun0_c : AC Tryz.prog 65 [.it .i64 0] [] (itemV (bgn 0)) [] := by
 refine AC.enter2 [124] [] Tryz.func65 rfl (by decide) (by decide) znl (by kernel_rfl) ?_; refine zev ?_
 have k := ofAct_c { act0 with author := bgnId 0, text := [110, 97, 109, 101], n := 37 } (by decide) (by decide)
 refine run ?_
 refine cp k ?_
 refine run ?_
 exact er0
theorem begun1_c : AC Tryz.prog 65 [.it .i64 1] [] (itemV (bgn 1)) [] := by
 refine AC.enter2 [124] [] Tryz.func65 rfl (by decide) (by decide) znl (by kernel_rfl) ?_; refine zev ?_
 have k := ofAct_c { act0 with author := bgnId 1, text := [110, 97, 109, 101], n := 37 } (by decide) (by decide)
 refine run ?_
 refine cp k ?_
 refine run ?_
 exact er0
def k5 : Key := Sg.keyOf 5
theorem k5_right : k5.right = true := keyOf_right (by decide) (by decide)
def bE1 : List It.Entry := [⟨5, bgn 0⟩]
def bE2 : List It.Entry := [⟨5, bgn 0⟩, ⟨5, bgn 1⟩]
theorem rec1_len (s : By) (h : s.length ≤ 300000) : (rec1 s).length ≤ 300030 := by
 have h1 := num_le 8 s.length (by omega)
 have h2 := ck_len s
 simp only [rec1, List.length_append]
 omega
theorem bE2_right : ∀ e ∈ bE2, It.right e.item = true := fun e he => by
 unfold bE2 at he
 simp only [List.mem_cons, List.not_mem_nil, or_false] at he
 rcases he with rfl | rfl
 ·exact bgn0_right
 ·exact bgn1_right
theorem bE2_iz : ∀ e ∈ bE2, Iz e.item := fun e he => iz_right (bE2_right e he)
theorem small15_c : AC Tryz.prog 10 [] [] (.bo true) [] := by
 obtain ⟨d1, e1, c1', f1, _, _⟩ := calm_open dk0_calm (n := 0) (by omega)
 have f1 : d1.fs 0 = ⟨[], 0⟩ := f1
 have hkr : -9223372036854775808 ≤ k5.secret ∧ k5.secret ≤ 9223372036854775807 := by decide +kernel
 have o1 := sopen_nil_c Dm.dk0 d1 0 3 k5 k5_right hkr (by decide) (by decide) e1 rfl
 have kh1 := smhead_c d1 0 3 k5 [] 0 hkr (by decide) (fun e he => absurd he (by simp)) (Nat.le_refl _)
 obtain ⟨m1, m2, m3⟩ := mkHead_right (k := k5) (server := 3) (l := []) (time := 0) k5_right (by decide) (by decide) (by decide)
 have hh1 : headE k5 3 [] 0 = mkHead k5 3 [] 0 := rfl
 have kv := sverify_c k5.pub (headE k5 3 [] 0) (by decide +kernel)
 rw [hh1] at kh1 kv
 rw [m3] at kv
 have hb0 := entryB_len ⟨5, bgn 0⟩
 have hb1 := entryB_len ⟨5, bgn 1⟩
 have r0 := rec1_len (entryB ⟨5, bgn 0⟩) (by omega)
 have r1 := rec1_len (entryB ⟨5, bgn 1⟩) (by omega)
 obtain ⟨d2, a1, a2, a3, a4⟩ := calm_add' c1' (n := 0) (by omega) (s := entryB ⟨5, bgn 0⟩) (by omega) (by rw [f1]; show 0 + _ ≤ _; omega)
 have s1 : saddD d1 0 [] (bgn 0) 5 = ((0, 0), d2, bE1) := by
  unfold saddD
  rw [if_pos ⟨bgn0_right, by decide⟩, if_neg (by simp)]
  have a1 : addD d1 0 (entryB ⟨nextT [] 5, bgn 0⟩) = (0, d2) := a1
  rw [a1]
  rfl
 have ka1 := sadd_c d1 0 3 k5 [] 0 (bgn 0) 5 (iz_right bgn0_right) (by decide) (fun h => right_small h)
 rw [s1] at ka1
 rw [f1] at a3
 obtain ⟨d3, b1, b2, b3, b4⟩ := calm_add' a2 (n := 0) (by omega) (s := entryB ⟨5, bgn 1⟩) (by omega) (by rw [a3]; simp only [List.length_append, List.length_nil]; omega)
 have s2 : saddD d2 0 bE1 (bgn 1) 3 = ((1, 0), d3, bE2) := by
  unfold saddD
  rw [if_pos ⟨bgn1_right, by decide⟩, if_neg (by
   show It.digest (bgn 1) ∉ [It.digest (bgn 0)]
   rw [List.mem_singleton]
   exact bgn_ne)]
  have b1 : addD d2 0 (entryB ⟨nextT bE1 3, bgn 1⟩) = (0, d3) := b1
  rw [b1]
  rfl
 have ka2 := sadd_c d2 0 3 k5 bE1 0 (bgn 1) 3 (iz_right bgn1_right) (by decide) (fun h => right_small h)
 rw [s2] at ka2
 obtain ⟨d4, g1, g2, g3, g4⟩ := calm_flush' b2 (n := 0) (by omega)
 have kl1 := slen_c d3 0 3 k5 bE2 0
 have kf := sflush_c d3 0 3 k5 bE2 0
 rw [show (0 : Int) = ((0 : Nat) : Int) from rfl, g1] at kf
 have ke := sentries_c d4 0 3 k5 bE2 2 0 9 (by decide) (by decide) bE2_right
 have hwin : windowE bE2 2 0 9 = bE2 := rfl
 rw [hwin] at ke
 have s3 : saddD d4 0 bE2 (bgn 0) 7 = ((0, 13), d4, bE2) := by
  unfold saddD
  rw [if_pos ⟨bgn0_right, by decide⟩, if_pos (by
   show It.digest (bgn 0) ∈ [It.digest (bgn 0), _]
   simp)]
 have ka3 := sadd_c d4 0 3 k5 bE2 2 (bgn 0) 7 (iz_right bgn0_right) (by decide) (fun h => right_small h)
 rw [s3] at ka3
 have s4 : saddD d4 0 bE2 item0 7 = ((0, 1), d4, bE2) := by
  unfold saddD
  rw [if_neg (fun h => by rw [item0_wrong] at h; exact absurd h.1 (by decide))]
 have ka4 := sadd_c d4 0 3 k5 bE2 2 item0 7 ⟨szI0, by decide, by decide, dz0⟩ (by decide) (fun h => by rw [item0_wrong] at h; cases h)
 rw [s4] at ka4
 have kl2 := slen_c d4 0 3 k5 bE2 2
 have kh2 := smhead_c d4 0 3 k5 bE2 2 hkr (by decide) bE2_iz (by decide)
 have hh2 : headE k5 3 bE2 2 = mkHead k5 3 bE2 5 := rfl
 obtain ⟨n1, n2, n3⟩ := mkHead_right (k := k5) (server := 3) (l := bE2) (time := 5) k5_right (by decide) (by decide) (by decide)
 rw [hh2] at kh2
 have kk := of_c 5 (by decide)
 change AC _ _ _ _ (keyV k5) _ at kk
 clear a1 a3 a4 b1 b2 b3 b4 g1 g2 g3 g4 e1 f1 c1' r0 r1 hb0 hb1 s1 s2 s3 s4 a2 hh1 hh2 hwin m3 n3 m2 n2
 have z1 : (mkHead k5 3 [] 0).size = 0 ∧ (mkHead k5 3 [] 0).time = 0 ∧ (mkHead k5 3 [] 0).server = 3 := by rw [m1]; exact ⟨rfl, rfl, rfl⟩
 have z2 : (mkHead k5 3 bE2 5).size = 2 := by rw [n1]; rfl
 clear m1 n1
 generalize mkHead k5 3 [] 0 = hd1 at *
 generalize mkHead k5 3 bE2 5 = hd2 at *
 obtain ⟨hv, hs, hr, ht, hg⟩ := hd1
 obtain ⟨rfl, rfl, rfl⟩ := z1
 obtain ⟨hv2, hs2, hr2, ht2, hg2⟩ := hd2
 obtain rfl := z2
 generalize k5 = kk5 at *
 refine AC.enter2 [64, 65, 50] [] Tryz.func10 rfl (by decide) (by decide) znl (by kernel_rfl) ?_; refine zev ?_
 refine run ?_
 refine call_mk (AC.newAt d_new _) ?_
 refine run ?_
 refine cp kk ?_
 refine run ?_
 refine cso 0 o1 ?_
 refine run ?_
 refine csg 0 2 3 4 5 6 kh1 ?_
 refine run ?_
 refine cp begun0_c ?_
 refine run ?_
 refine csg 0 2 3 4 5 6 ka1 ?_
 refine run ?_
 refine cp begun1_c ?_
 refine run ?_
 refine csg 0 2 3 4 5 6 ka2 ?_
 refine run ?_
 refine csg 0 2 3 4 5 6 kl1 ?_
 refine run ?_
 refine csg 0 2 3 4 5 6 kf ?_
 refine run ?_
 refine csg 0 2 3 4 5 6 ke ?_
 refine run ?_
 refine cp begun0_c ?_
 refine run ?_
 refine csg 0 2 3 4 5 6 ka3 ?_
 refine run ?_
 refine csg 0 2 3 4 5 6 ka4 ?_
 have hb2 : bE2.length = 2 := rfl
 have hsz : allSz 50 (bE2.map entryV) = true := entries_sz bE2
 have hx0 : bE2[0]? = some ⟨5, bgn 0⟩ := rfl
 have hx1 : bE2[1]? = some ⟨5, bgn 1⟩ := rfl
 refine runf (an @hb2 (an @hx0 (an @hx1 @hsz))) ?_
 refine cp kv ?_
 refine runf (an @hb2 (an @hx0 (an @hx1 @hsz))) ?_
 refine csg 0 2 3 4 5 6 kl2 ?_
 refine runf (an @hb2 (an @hx0 (an @hx1 @hsz))) ?_
 refine csg 0 2 3 4 5 6 kh2 ?_
 refine runf (an @hb2 (an @hx0 (an @hx1 @hsz))) ?_
 exact er0
end Go.Proofs.YtlefikdjhnaapaaGreatDoor.Pe
end
section
namespace Go.Proofs.YtlefikdjhnaapaaGreatDoor.Pe
open Go Go.RowKit Co
set_option maxRecDepth 100000
set_option maxHeartbeats 4000000
theorem fnum_nat : ∀ (f n : Nat), n < f → n < 9223372036854775808 → AC Tryz.prog 110 [.it .i64 n] [] (.st (num n)) []
 | 0, n, h, _ => absurd h (Nat.not_lt_zero _)
 | f + 1, n, hf, hn => by
  by_cases hs : n < 128
  ·refine AC.enter [110] [] Tryz.func110 rfl (by decide) (by decide) znl (by kernel_rfl) ?_; refine zev ?_
   have h0 : ¬ (n : Int) < 0 := by omega
   have h1 : (n : Int) < 128 := by omega
   have hw : IntKind.u8.wrap (n : Int) = (n : Int) := wrap8 (by omega) (by omega)
   have hb : bytesOf [AV.it .u8 (n : Int)] = some [UInt8.ofNat n] := by
    rw [show (AV.it .u8 (n : Int)) = u8 (UInt8.ofNat n) from by unfold u8; rw [ofNat8 (by omega)]]
    exact bytesOf_map [UInt8.ofNat n]
   rw [num_small hs]
   refine runf (an @h0 (an @h1 (an @hw @hb))) ?_
   exact er0
  ·have ih := fnum_nat f (n / 128) (by omega) (by omega)
   refine AC.enter [110] [] Tryz.func110 rfl (by decide) (by decide) znl (by kernel_rfl) ?_; refine zev ?_
   have h0 : ¬ (n : Int) < 0 := by omega
   have h1 : ¬ (n : Int) < 128 := by omega
   have hm : (n : Int).tmod 128 = ((n % 128 : Nat) : Int) := by rw [Int.tmod_eq_emod_of_nonneg (by omega)]; omega
   have hd : (n : Int).tdiv 128 = ((n / 128 : Nat) : Int) := by rw [Int.tdiv_eq_ediv_of_nonneg (by omega)]; omega
   have hw : IntKind.u8.wrap (128 + ((n % 128 : Nat) : Int)) = ((128 + n % 128 : Nat) : Int) := by rw [show (128 : Int) + ((n % 128 : Nat) : Int) = ((128 + n % 128 : Nat) : Int) from by omega]; exact wrap8 (by omega) (by omega)
   have hb : bytesOf [AV.it .u8 ((128 + n % 128 : Nat) : Int)] = some [UInt8.ofNat (128 + n % 128)] := by
    rw [show (AV.it .u8 ((128 + n % 128 : Nat) : Int)) = u8 (UInt8.ofNat (128 + n % 128)) from by unfold u8; rw [ofNat8 (by omega)]]
    exact bytesOf_map [UInt8.ofNat (128 + n % 128)]
   have hl := num_len9 (n := n / 128) (by omega)
   rw [num_big hs]
   refine runf (an @h0 (an @h1 (an @hm (an @hd (an @hw @hb))))) ?_
   refine cp ih ?_
   refine run ?_
   exact er0
theorem fnum_c (n : Int) (h : n < 9223372036854775808) : AC Tryz.prog 110 [.it .i64 n] [] (.st (numI n)) [] := by
 by_cases h0 : n < 0
 ·refine AC.enter [110] [] Tryz.func110 rfl (by decide) (by decide) znl (by kernel_rfl) ?_; refine zev ?_
  rw [show numI n = [] from by unfold numI; rw [if_pos h0]]
  refine run ?_
  exact er0
 ·obtain ⟨m, rfl⟩ : ∃ m : Nat, n = (m : Int) := ⟨n.toNat, by omega⟩
  rw [numI_nat]
  exact fnum_nat (m + 1) m (by omega) (by omega)
theorem ftext_c (s : By) (h : s.length ≤ 1000000000) : AC Tryz.prog 183 [.st s] [] (.st (text s)) [] := by
 refine AC.enter [110] [] Tryz.func183 rfl (by decide) (by decide) znl (by kernel_rfl) ?_; refine zev ?_
 have k := fnum_c (s.length : Int) (by omega)
 rw [numI_nat] at k
 have hl := num_len9 (n := s.length) (by omega)
 unfold text
 refine run ?_
 refine cp k ?_
 refine run ?_
 exact er0
end Go.Proofs.YtlefikdjhnaapaaGreatDoor.Pe
namespace Go.Proofs.YtlefikdjhnaapaaGreatDoor.Pe
open Go Go.RowKit Co Sg
set_option maxRecDepth 100000
set_option maxHeartbeats 4000000
theorem emod_tmod (a m : Int) (hm : 0 < m) : a % m = if a.tmod m < 0 then a.tmod m + m else a.tmod m := by
 rw [Int.emod_eq_tmod]
 have hb := Int.emod_nonneg a (show m ≠ 0 by omega)
 have ht := Int.tmod_lt_of_pos a hm
 by_cases h0 : 0 ≤ a
 ·have := Int.tmod_nonneg m h0
  rw [if_pos (.inl h0), if_neg (by omega)]; omega
 ·by_cases hd : m ∣ a
  ·rw [if_pos (.inr hd), Int.tmod_eq_zero_of_dvd hd]; simp
  ·have hneg : a.tmod m < 0 := by
    have h2 := Int.emod_eq_tmod (a := a) (b := m)
    rw [if_neg (by rintro (h | h); exact h0 h; exact hd h)] at h2
    have h3 := Int.emod_lt_of_pos a hm
    have : (m.natAbs : Int) = m := by omega
    omega
   rw [if_neg (by rintro (h | h); exact h0 h; exact hd h), if_pos hneg]
   omega
theorem and31 (a : Nat) (ha : a < 18446744073709551616) : Go.bits .and .u64 (a : Int) 2147483647 = ((a % 2147483648 : Nat) : Int) := by
 have := bits_nat .and Nat.land (.inl ⟨rfl, rfl⟩) a 2147483647 ha (by omega) .u64 (.inl rfl)
 have e : Nat.land a 2147483647 = a % 2147483648 := Nat.and_two_pow_sub_one_eq_mod a 31
 rw [e] at this
 exact this.trans (wrapn (by omega))
theorem and30 (a : Nat) (ha : a < 18446744073709551616) : Go.bits .and .u64 (a : Int) 1073741823 = ((a % 1073741824 : Nat) : Int) := by
 have := bits_nat .and Nat.land (.inl ⟨rfl, rfl⟩) a 1073741823 ha (by omega) .u64 (.inl rfl)
 have e : Nat.land a 1073741823 = a % 1073741824 := Nat.and_two_pow_sub_one_eq_mod a 30
 rw [e] at this
 exact this.trans (wrapn (by omega))
theorem wrapi {n : Nat} (h : n < 9223372036854775808) : IntKind.i64.wrap (n : Int) = (n : Int) := wrap64 (by omega) (by omega)
theorem mul_parts31 (x0 x1 y0 y1 : Nat) : (x1 * 2147483648 + x0) * (y1 * 2147483648 + y0) = x1 * y1 * 4611686018427387904 + (x1 * y0 + x0 * y1) * 2147483648 + x0 * y0 := by
 grind
theorem rmod_c (a m : Int) (hm : 0 < m) (hm' : m < 4611686018427387904) (ha : -9223372036854775808 ≤ a ∧ a ≤ 9223372036854775807) : AC Tryz.prog 252 [.it .i64 a, .it .i64 m] [] (.it .i64 (a % m)) [] := by
 refine AC.enter [] [] Tryz.func252 rfl (by decide) (by decide) znl (by kernel_rfl) ?_; refine zev ?_
 have h1 := emod_tmod a m hm
 have h2 : -m ≤ a.tmod m ∧ a.tmod m < m := by
  have hb := Int.emod_nonneg a (show m ≠ 0 by omega)
  have hc := Int.emod_lt_of_pos a hm
  have ht := Int.tmod_lt_of_pos a hm
  split at h1 <;> omega
 have hm0 : m ≠ 0 := by omega
 obtain ⟨t, ht⟩ : ∃ t, a.tmod m = t := ⟨_, rfl⟩
 rw [ht] at h1 h2
 rw [h1]
 by_cases h0 : t < 0
 ·rw [if_pos h0]
  refine runf (an @ht @hm0) ?_
  exact er0
 ·rw [if_neg h0]
  refine runf (an @ht @hm0) ?_
  exact er0
theorem rparts_c (a b : Nat) (ha : a < 2305843009213693952) (hb : b < 2305843009213693952) : AC Tryz.prog 254 [.it .i64 a, .it .i64 b] [] (.tup [.it .u64 ((a / 2147483648 * (b / 2147483648) : Nat) : Int), .it .u64 ((a / 2147483648 * (b % 2147483648) + a % 2147483648 * (b / 2147483648) : Nat) : Int), .it .u64 ((a % 2147483648 * (b % 2147483648) : Nat) : Int)]) [] := by
 refine AC.enter [] [] Tryz.func254 rfl (by decide) (by decide) znl (by kernel_rfl) ?_; refine zev ?_
 have wa := wrapn (n := a) (by omega)
 have wb := wrapn (n := b) (by omega)
 have hx0 := and31 a (by omega)
 have hy0 := and31 b (by omega)
 have hx1 := shr_lit a 31 31 rfl (by omega)
 have hy1 := shr_lit b 31 31 rfl (by omega)
 rw [show (2 : Nat) ^ 31 = 2147483648 from rfl] at hx1 hy1
 have b0 : a % 2147483648 ≤ 2147483647 := by omega
 have b1 : a / 2147483648 ≤ 1073741823 := by omega
 have b2 : b % 2147483648 ≤ 2147483647 := by omega
 have b3 : b / 2147483648 ≤ 1073741823 := by omega
 generalize a % 2147483648 = x0 at *
 generalize a / 2147483648 = x1 at *
 generalize b % 2147483648 = y0 at *
 generalize b / 2147483648 = y1 at *
 have p00 : x0 * y0 ≤ 2147483647 * 2147483647 := Nat.mul_le_mul b0 b2
 have p10 : x1 * y0 ≤ 1073741823 * 2147483647 := Nat.mul_le_mul b1 b2
 have p01 : x0 * y1 ≤ 2147483647 * 1073741823 := Nat.mul_le_mul b0 b3
 have p11 : x1 * y1 ≤ 1073741823 * 1073741823 := Nat.mul_le_mul b1 b3
 have c00 : ((x0 : Int) * (y0 : Int)) = ((x0 * y0 : Nat) : Int) := by push_cast; rfl
 have c10 : ((x1 : Int) * (y0 : Int)) = ((x1 * y0 : Nat) : Int) := by push_cast; rfl
 have c01 : ((x0 : Int) * (y1 : Int)) = ((x0 * y1 : Nat) : Int) := by push_cast; rfl
 have c11 : ((x1 : Int) * (y1 : Int)) = ((x1 * y1 : Nat) : Int) := by push_cast; rfl
 generalize x0 * y0 = q00 at *
 generalize x1 * y0 = q10 at *
 generalize x0 * y1 = q01 at *
 generalize x1 * y1 = q11 at *
 have w00 : IntKind.u64.wrap (q00 : Int) = (q00 : Int) := wrapn (by omega)
 have w10 : IntKind.u64.wrap (q10 : Int) = (q10 : Int) := wrapn (by omega)
 have w01 : IntKind.u64.wrap (q01 : Int) = (q01 : Int) := wrapn (by omega)
 have w11 : IntKind.u64.wrap (q11 : Int) = (q11 : Int) := wrapn (by omega)
 have ws : IntKind.u64.wrap ((q10 : Int) + (q01 : Int)) = ((q10 + q01 : Nat) : Int) := by rw [wrapu]; omega
 refine runf (an @wa (an @wb (an @hx0 (an @hy0 (an @hx1 (an @hy1 (an @c00 (an @c10 (an @c01 (an @c11 (an @w00 (an @w10 (an @w01 (an @w11 @ws)))))))))))))) ?_
 exact er0
theorem rmul_c (a b : Int) (ha : -9223372036854775808 ≤ a ∧ a ≤ 9223372036854775807) (hb : -9223372036854775808 ≤ b ∧ b ≤ 9223372036854775807) : AC Tryz.prog 253 [.it .i64 a, .it .i64 b] [] (.it .i64 (mulI a b : Nat)) [] := by
 refine AC.enter [252, 254] [] Tryz.func253 rfl (by decide) (by decide) znl (by kernel_rfl) ?_; refine zev ?_
 unfold mulI
 have a1 := Int.emod_nonneg a (show (2305843009213693951 : Int) ≠ 0 by omega)
 have a2 := Int.emod_lt_of_pos a (show (0 : Int) < 2305843009213693951 by omega)
 have b1 := Int.emod_nonneg b (show (2305843009213693951 : Int) ≠ 0 by omega)
 have b2 := Int.emod_lt_of_pos b (show (0 : Int) < 2305843009213693951 by omega)
 obtain ⟨x, hx⟩ := Int.eq_ofNat_of_zero_le a1
 obtain ⟨y, hy⟩ := Int.eq_ofNat_of_zero_le b1
 have ra := rmod_c a 2305843009213693951 (by omega) (by omega) ha
 have rb := rmod_c b 2305843009213693951 (by omega) (by omega) hb
 rw [hx] at ra a1 a2 ⊢
 rw [hy] at rb b1 b2 ⊢
 rw [Int.toNat_natCast, Int.toNat_natCast]
 have hm := rparts_c x y (by omega) (by omega)
 have hxy : x * y = x / 2147483648 * (y / 2147483648) * 4611686018427387904 + (x / 2147483648 * (y % 2147483648) + x % 2147483648 * (y / 2147483648)) * 2147483648 + x % 2147483648 * (y % 2147483648) := by
  rw [← mul_parts31, Nat.div_add_mod', Nat.div_add_mod']
 have d0 : x % 2147483648 ≤ 2147483647 := by omega
 have d1 : x / 2147483648 ≤ 1073741823 := by omega
 have d2 : y % 2147483648 ≤ 2147483647 := by omega
 have d3 : y / 2147483648 ≤ 1073741823 := by omega
 generalize x % 2147483648 = x0 at *
 generalize x / 2147483648 = x1 at *
 generalize y % 2147483648 = y0 at *
 generalize y / 2147483648 = y1 at *
 have p00 : x0 * y0 ≤ 2147483647 * 2147483647 := Nat.mul_le_mul d0 d2
 have p10 : x1 * y0 ≤ 1073741823 * 2147483647 := Nat.mul_le_mul d1 d2
 have p01 : x0 * y1 ≤ 2147483647 * 1073741823 := Nat.mul_le_mul d0 d3
 have p11 : x1 * y1 ≤ 1073741823 * 1073741823 := Nat.mul_le_mul d1 d3
 have hmid : x1 * y0 + x0 * y1 ≤ 4611686018427387904 := by omega
 generalize x1 * y0 + x0 * y1 = md at *
 generalize x1 * y1 = hi at *
 generalize x0 * y0 = lo at *
 generalize x * y = xy at *
 have k1 := shr_lit md 30 30 rfl (by omega)
 rw [show (2 : Nat) ^ 30 = 1073741824 from rfl] at k1
 have k2 := and30 md (by omega)
 have k3 := shl_lit (md % 1073741824) 31 31 rfl (by omega)
 have e3 : md % 1073741824 * 2 ^ 31 % 18446744073709551616 = md % 1073741824 * 2147483648 := by omega
 rw [e3] at k3
 have k4 : IntKind.u64.wrap (2 * (hi : Int)) = ((2 * hi : Nat) : Int) := by rw [wrapu]; omega
 have k5 : IntKind.u64.wrap (((2 * hi : Nat) : Int) + ((md / 1073741824 : Nat) : Int)) = ((2 * hi + md / 1073741824 : Nat) : Int) := by rw [wrapu]; omega
 have k6 : IntKind.u64.wrap (((2 * hi + md / 1073741824 : Nat) : Int) + ((md % 1073741824 * 2147483648 : Nat) : Int)) = ((2 * hi + md / 1073741824 + md % 1073741824 * 2147483648 : Nat) : Int) := by rw [wrapu]; omega
 have k7 : IntKind.u64.wrap (((2 * hi + md / 1073741824 + md % 1073741824 * 2147483648 : Nat) : Int) + (lo : Int)) = ((2 * hi + md / 1073741824 + md % 1073741824 * 2147483648 + lo : Nat) : Int) := by rw [wrapu]; omega
 have k8 : ((2 * hi + md / 1073741824 + md % 1073741824 * 2147483648 + lo : Nat) : Int).tmod 2305843009213693951 = ((xy % 2305843009213693951 : Nat) : Int) := by
  rw [Int.tmod_eq_emod_of_nonneg (by omega)]; omega
 have k9 : IntKind.i64.wrap ((xy % 2305843009213693951 : Nat) : Int) = ((xy % 2305843009213693951 : Nat) : Int) := wrapi (by omega)
 refine run ?_
 refine cp ra ?_
 refine run ?_
 refine cp rb ?_
 refine run ?_
 refine cp hm ?_
 refine runf (an @k1 (an @k2 (an @k3 (an @k4 (an @k5 (an @k6 (an @k7 (an @k8 @k9)))))))) ?_
 exact er0
theorem rmulN_c (a b : Int) (ha : -9223372036854775808 ≤ a ∧ a ≤ 9223372036854775807) (hb : -9223372036854775808 ≤ b ∧ b ≤ 9223372036854775807) : AC Tryz.prog 187 [.it .i64 a, .it .i64 b] [] (.it .i64 (mulNI a b : Nat)) [] := by
 refine AC.enter [252, 254] [] Tryz.func187 rfl (by decide) (by decide) znl (by kernel_rfl) ?_; refine zev ?_
 unfold mulNI
 have a1 := Int.emod_nonneg a (show (2305843009213693950 : Int) ≠ 0 by omega)
 have a2 := Int.emod_lt_of_pos a (show (0 : Int) < 2305843009213693950 by omega)
 have b1 := Int.emod_nonneg b (show (2305843009213693950 : Int) ≠ 0 by omega)
 have b2 := Int.emod_lt_of_pos b (show (0 : Int) < 2305843009213693950 by omega)
 obtain ⟨x, hx⟩ := Int.eq_ofNat_of_zero_le a1
 obtain ⟨y, hy⟩ := Int.eq_ofNat_of_zero_le b1
 have ra := rmod_c a 2305843009213693950 (by omega) (by omega) ha
 have rb := rmod_c b 2305843009213693950 (by omega) (by omega) hb
 rw [hx] at ra a1 a2 ⊢
 rw [hy] at rb b1 b2 ⊢
 rw [Int.toNat_natCast, Int.toNat_natCast]
 have hm := rparts_c x y (by omega) (by omega)
 have hxy : x * y = x / 2147483648 * (y / 2147483648) * 4611686018427387904 + (x / 2147483648 * (y % 2147483648) + x % 2147483648 * (y / 2147483648)) * 2147483648 + x % 2147483648 * (y % 2147483648) := by
  rw [← mul_parts31, Nat.div_add_mod', Nat.div_add_mod']
 have d0 : x % 2147483648 ≤ 2147483647 := by omega
 have d1 : x / 2147483648 ≤ 1073741823 := by omega
 have d2 : y % 2147483648 ≤ 2147483647 := by omega
 have d3 : y / 2147483648 ≤ 1073741823 := by omega
 generalize x % 2147483648 = x0 at *
 generalize x / 2147483648 = x1 at *
 generalize y % 2147483648 = y0 at *
 generalize y / 2147483648 = y1 at *
 have p00 : x0 * y0 ≤ 2147483647 * 2147483647 := Nat.mul_le_mul d0 d2
 have p10 : x1 * y0 ≤ 1073741823 * 2147483647 := Nat.mul_le_mul d1 d2
 have p01 : x0 * y1 ≤ 2147483647 * 1073741823 := Nat.mul_le_mul d0 d3
 have p11 : x1 * y1 ≤ 1073741823 * 1073741823 := Nat.mul_le_mul d1 d3
 have hmid : x1 * y0 + x0 * y1 ≤ 4611686018427387904 := by omega
 generalize x1 * y0 + x0 * y1 = md at *
 generalize x1 * y1 = hi at *
 generalize x0 * y0 = lo at *
 generalize x * y = xy at *
 have k1 := shr_lit md 30 30 rfl (by omega)
 rw [show (2 : Nat) ^ 30 = 1073741824 from rfl] at k1
 have k2 := and30 md (by omega)
 have k3 := shl_lit (md % 1073741824) 31 31 rfl (by omega)
 have e3 : md % 1073741824 * 2 ^ 31 % 18446744073709551616 = md % 1073741824 * 2147483648 := by omega
 rw [e3] at k3
 have k4 : IntKind.u64.wrap (4 * (hi : Int)) = ((4 * hi : Nat) : Int) := by rw [wrapu]; omega
 have k4' : IntKind.u64.wrap (2 * ((md / 1073741824 : Nat) : Int)) = ((2 * (md / 1073741824) : Nat) : Int) := by rw [wrapu]; omega
 have k5 : IntKind.u64.wrap (((4 * hi : Nat) : Int) + ((2 * (md / 1073741824) : Nat) : Int)) = ((4 * hi + 2 * (md / 1073741824) : Nat) : Int) := by rw [wrapu]; omega
 have k6 : IntKind.u64.wrap (((4 * hi + 2 * (md / 1073741824) : Nat) : Int) + ((md % 1073741824 * 2147483648 : Nat) : Int)) = ((4 * hi + 2 * (md / 1073741824) + md % 1073741824 * 2147483648 : Nat) : Int) := by rw [wrapu]; omega
 have k7 : IntKind.u64.wrap (((4 * hi + 2 * (md / 1073741824) + md % 1073741824 * 2147483648 : Nat) : Int) + (lo : Int)) = ((4 * hi + 2 * (md / 1073741824) + md % 1073741824 * 2147483648 + lo : Nat) : Int) := by rw [wrapu]; omega
 have k8 : ((4 * hi + 2 * (md / 1073741824) + md % 1073741824 * 2147483648 + lo : Nat) : Int).tmod 2305843009213693950 = ((xy % 2305843009213693950 : Nat) : Int) := by
  rw [Int.tmod_eq_emod_of_nonneg (by omega)]; omega
 have k9 : IntKind.i64.wrap ((xy % 2305843009213693950 : Nat) : Int) = ((xy % 2305843009213693950 : Nat) : Int) := wrapi (by omega)
 refine run ?_
 refine cp ra ?_
 refine run ?_
 refine cp rb ?_
 refine run ?_
 refine cp hm ?_
 refine runf (an @k1 (an @k2 (an @k3 (an @k4 (an @k4' (an @k5 (an @k6 (an @k7 (an @k8 @k9))))))))) ?_
 exact er0
theorem raddN_c (a b : Int) (ha : -9223372036854775808 ≤ a ∧ a ≤ 9223372036854775807) (hb : -9223372036854775808 ≤ b ∧ b ≤ 9223372036854775807) : AC Tryz.prog 186 [.it .i64 a, .it .i64 b] [] (.it .i64 ((a % 2305843009213693950 + b % 2305843009213693950) % 2305843009213693950)) [] := by
 refine AC.enter [252] [] Tryz.func186 rfl (by decide) (by decide) znl (by kernel_rfl) ?_; refine zev ?_
 have a1 := Int.emod_nonneg a (show (2305843009213693950 : Int) ≠ 0 by omega)
 have a2 := Int.emod_lt_of_pos a (show (0 : Int) < 2305843009213693950 by omega)
 have b1 := Int.emod_nonneg b (show (2305843009213693950 : Int) ≠ 0 by omega)
 have b2 := Int.emod_lt_of_pos b (show (0 : Int) < 2305843009213693950 by omega)
 refine run ?_
 refine cp (rmod_c a 2305843009213693950 (by omega) (by omega) ha) ?_
 refine run ?_
 refine cp (rmod_c b 2305843009213693950 (by omega) (by omega) hb) ?_
 refine run ?_
 refine cp (rmod_c (a % 2305843009213693950 + b % 2305843009213693950) 2305843009213693950 (by omega) (by omega) (by omega)) ?_
 refine run ?_
 exact er0
theorem rexp_c (a e : Int) (ha : -9223372036854775808 ≤ a ∧ a ≤ 9223372036854775807) (he : -9223372036854775808 ≤ e ∧ e ≤ 9223372036854775807) : AC Tryz.prog 185 [.it .i64 a, .it .i64 e] [] (.it .i64 (expI a e : Nat)) [] := by
 refine AC.enter [252, 253] [] Tryz.func185 rfl (by decide) (by decide) znl (by kernel_rfl) ?_; refine zev ?_
 unfold expI powm
 have a1 := Int.emod_nonneg a (show (2305843009213693951 : Int) ≠ 0 by omega)
 have a2 := Int.emod_lt_of_pos a (show (0 : Int) < 2305843009213693951 by omega)
 have ra := rmod_c a 2305843009213693951 (by omega) (by omega) ha
 obtain ⟨x, hx⟩ := Int.eq_ofNat_of_zero_le a1
 rw [hx] at ra a1 a2 ⊢
 rw [Int.toNat_natCast, Nat.mod_eq_of_lt (show x < 2305843009213693951 by omega)]
 have hE : ∃ n : Nat, n < 9223372036854775808 ∧ ((if e < 0 then (e % 2305843009213693950).toNat else e.toNat) = n) ∧ (if e < 0 then e % 2305843009213693950 else e) = (n : Int) := by
  split
  ·exact ⟨(e % 2305843009213693950).toNat, by omega, rfl, by omega⟩
  ·exact ⟨e.toNat, by omega, rfl, by omega⟩
 obtain ⟨n, hn, en, eI⟩ := hE
 rw [en]
 have hp0 : (n : Nat) < 2 ^ 63 := by omega
 by_cases hneg : e < 0
 focus
  rw [if_pos hneg] at eI
  have re := rmod_c e 2305843009213693950 (by omega) (by omega) he
  rw [eI] at re
  refine run ?_
  refine cp re ?_
  refine run ?_
  refine cp ra ?_
  refine run ?_
 rotate_left
 focus
  rw [if_neg hneg] at eI
  subst eI
  refine run ?_
  refine cp ra ?_
  refine run ?_
 all_goals
  refine loop_mk (fun m e S => S = [] ∧ m ≤ 64 ∧ ∃ q r p : Nat, e 1 = .it .i64 (q : Int) ∧ e 5 = .it .i64 (r : Int) ∧ e 6 = .it .i64 (p : Int) ∧ q < 2 ^ m ∧ q < 9223372036854775808 ∧ r < 2305843009213693951 ∧ p < 2305843009213693951 ∧ powF 64 1 x n = powF m r p q) 64
   ⟨rfl, by omega, n, 1, x, zsl, zsl, zsl, by omega, by omega, by decide, by omega, rfl⟩ ?_
  rintro m e S ⟨rfl, hm, q, r, p, s1, s5, s6, hq, hq2, hr, hp, hpow⟩
  by_cases h0 : q = 0
  ·subst h0
   rw [powF_zero] at hpow
   rw [hpow]
   refine runf (an @s1 (an @s5 @s6)) ?_
   exact er0
  obtain ⟨m', rfl⟩ : ∃ m', m = m' + 1 := ⟨m - 1, by
   cases m with
   | zero => simp at hq; omega
   | succ m => omega⟩
  have hq0 : (0 : Int) < (q : Int) := by omega
  rw [powF_succ m' r p q] at hpow
  have hq' : q / 2 < 2 ^ m' := by rw [Nat.pow_succ] at hq; omega
  have mpp := rmul_c (p : Int) (p : Int) (by omega) (by omega)
  have mrp := rmul_c (r : Int) (p : Int) (by omega) (by omega)
  rw [mulI_nat hp hp] at mpp
  rw [mulI_nat hr hp] at mrp
  have lpp : p * p % 2305843009213693951 < 2305843009213693951 := Nat.mod_lt _ (by decide)
  have lrp : r * p % 2305843009213693951 < 2305843009213693951 := Nat.mod_lt _ (by decide)
  have t1 : (q : Int).tmod 2 = ((q % 2 : Nat) : Int) := by rw [Int.tmod_eq_emod_of_nonneg (by omega)]; omega
  have t2 : (q : Int).tdiv 2 = ((q / 2 : Nat) : Int) := by rw [Int.tdiv_eq_ediv_of_nonneg (by omega)]; omega
  by_cases ho : q % 2 = 1
  ·rw [if_pos ho] at hpow
   have hoI : ((q % 2 : Nat) : Int) = 1 := by omega
   refine runf (an @s1 (an @s5 (an @s6 (an @t1 (an @t2 (an @hoI @hq0)))))) ?_
   refine cp mrp ?_
   refine runf (an @s1 (an @s5 (an @s6 @t2))) ?_
   refine cp mpp ?_
   refine runf (an @s1 (an @s5 (an @s6 @t2))) ?_
   exact round_mk m' (by omega) ⟨rfl, by omega, q / 2, r * p % 2305843009213693951, p * p % 2305843009213693951, zsl, zsl, zsl, hq', by omega, lrp, lpp, hpow⟩
  ·rw [if_neg ho] at hpow
   have hoI : ((q % 2 : Nat) : Int) = 0 := by omega
   refine runf (an @s1 (an @s5 (an @s6 (an @t1 (an @t2 (an @hoI @hq0)))))) ?_
   refine cp mpp ?_
   refine runf (an @s1 (an @s5 (an @s6 @t2))) ?_
   exact round_mk m' (by omega) ⟨rfl, by omega, q / 2, r, p * p % 2305843009213693951, zsl, zsl, zsl, hq', by omega, hr, lpp, hpow⟩
theorem rsnum_c (l : By) (h : l.length ≤ 140737488355328) : AC Tryz.prog 288 [.st l] [] (.it .i64 (Sm.num l : Nat)) [] := by
 refine AC.ofBelow (by kernel_rfl) fun w g cargs ht hargs => ?_
 rw [lrel_st hargs]
 refine (rnum_any ⟨l.toArray⟩ w (by simp [ByteArray.size]; omega)).mono ?_
 rintro r w' ⟨rfl, rfl⟩
 exact ⟨_, rfl, fun g' => .it g' _ _, Below.refl _ _⟩
theorem rhash_c (l : By) (h : l.length ≤ 1000000000) : AC Tryz.prog 251 [.st l] [] (.it .i64 (Sg.hash l : Nat)) [] := by
 refine AC.enter [145, 288] [] Tryz.func251 rfl (by decide) (by decide) znl (by kernel_rfl) ?_; refine zev ?_
 have hs : (Sm.sha l).length ≤ 140737488355328 := by show 32 ≤ _; omega
 refine run ?_
 refine cp (rsha_c l (by omega)) ?_
 refine run ?_
 refine cp (rsnum_c _ hs) ?_
 refine run ?_
 exact er0
theorem rsecret_c (l : By) (h : l.length ≤ 1000000000) : AC Tryz.prog 182 [.st l] [] (.it .i64 (reduce (Sg.hash l) : Nat)) [] := by
 refine AC.enter [251] [] Tryz.func182 rfl (by decide) (by decide) znl (by kernel_rfl) ?_; refine zev ?_
 have hh := hash_lt l
 have hc := rhash_c l h
 unfold reduce
 generalize Sg.hash l = h at *
 have e : (h : Int).tmod 2305843009213693949 = ((h % 2305843009213693949 : Nat) : Int) := by rw [Int.tmod_eq_emod_of_nonneg (by omega)]; omega
 have e2 : (1 : Int) + ((h % 2305843009213693949 : Nat) : Int) = ((1 + h % 2305843009213693949 : Nat) : Int) := by omega
 refine run ?_
 refine cp hc ?_
 refine runf (an @e @e2) ?_
 exact er0
theorem rof_c (s : Int) (hs : -9223372036854775808 ≤ s ∧ s ≤ 9223372036854775807) : AC Tryz.prog 136 [.it .i64 s] [] (keyV (Sg.keyOf s)) [] := by
 refine AC.enter [185] [] Tryz.func136 rfl (by decide) (by decide) znl (by kernel_rfl) ?_; refine zev ?_
 unfold Sg.keyOf
 by_cases h1 : s < 1
 ·rw [if_pos (.inl h1)]
  refine run ?_
  exact er0
 by_cases h2 : 2305843009213693949 < s
 ·have h3 : 2305843009213693950 ≤ s := by omega
  rw [if_pos (.inr h2)]
  refine runf @h3 ?_
  exact er0
 ·have h3 : ¬ 2305843009213693950 ≤ s := by omega
  rw [if_neg (by omega)]
  obtain ⟨n, rfl⟩ := Int.eq_ofNat_of_zero_le (show 0 ≤ s by omega)
  have he := rexp_c 37 (n : Int) (by omega) (by omega)
  rw [expI_nat 37 37 n rfl (by decide)] at he
  refine run ?_
  refine cp he ?_
  refine run ?_
  exact er0
theorem rkeyright_c (k : Key) (hs : -9223372036854775808 ≤ k.secret ∧ k.secret ≤ 9223372036854775807) : AC Tryz.prog 71 [keyV k] [] (.bo k.right) [] := by
 refine AC.enter [136] [] Tryz.func71 rfl (by decide) (by decide) znl (by kernel_rfl) ?_; refine zev ?_
 unfold Key.right
 have ke : decide (k = Sg.keyOf k.secret) = ((k.secret == (Sg.keyOf k.secret).secret) && (k.pub == (Sg.keyOf k.secret).pub)) := by
  generalize Sg.keyOf k.secret = q
  obtain ⟨a, b⟩ := k
  obtain ⟨c, d⟩ := q
  rw [Bool.eq_iff_iff]
  simp
 rw [ke]
 by_cases h1 : 1 ≤ k.secret
 ·have h2 : 0 < k.secret := by omega
  rw [decide_eq_true h1]
  refine runf @h2 ?_
  refine cp (rof_c k.secret hs) ?_
  refine run ?_
  exact er0
 ·have h2 : ¬ 0 < k.secret := by omega
  rw [decide_eq_false h1]
  refine runf @h2 ?_
  exact er0
theorem rchallenge_c (r p : Int) (m : By) (hm : m.length ≤ 100000000) (hr : -9223372036854775808 ≤ r ∧ r ≤ 9223372036854775807) (hp : -9223372036854775808 ≤ p ∧ p ≤ 9223372036854775807) : AC Tryz.prog 184 [.it .i64 r, .it .i64 p, .st m] [] (.it .i64 (challenge r p m : Nat)) [] := by
 refine AC.enter [183, 110, 251] [] Tryz.func184 rfl (by decide) (by decide) znl (by kernel_rfl) ?_; refine zev ?_
 have tw : (text wSign).length = 5 := by rfl
 have tm := text_le m hm
 have l1 := numI_len r (by omega)
 have l2 := numI_len p (by omega)
 have hlt := hash_lt (text wSign ++ numI r ++ numI p ++ text m)
 unfold challenge
 have hh := rhash_c (text wSign ++ numI r ++ numI p ++ text m) (by simp only [List.length_append]; omega)
 generalize Sg.hash (text wSign ++ numI r ++ numI p ++ text m) = h at *
 have e : (h : Int).tmod 2305843009213693950 = ((h % 2305843009213693950 : Nat) : Int) := by rw [Int.tmod_eq_emod_of_nonneg (by omega)]; omega
 refine run ?_
 refine cp (ftext_c wSign (by simp)) ?_
 refine run ?_
 refine cp (fnum_c r (by omega)) ?_
 refine run ?_
 refine cp (fnum_c p (by omega)) ?_
 refine run ?_
 refine cp (ftext_c m (by omega)) ?_
 refine run ?_
 refine cp hh ?_
 refine runf @e ?_
 exact er0
theorem rsign_c (k : Key) (m : By) (hm : m.length ≤ 100000000) (hs : -9223372036854775808 ≤ k.secret ∧ k.secret ≤ 9223372036854775807) : AC Tryz.prog 105 [keyV k, .st m] [] (sigV (sign k m)) [] := by
 refine AC.enter [71, 183, 110, 182, 185, 184, 187, 186] [] Tryz.func105 rfl (by decide) (by decide) znl (by kernel_rfl) ?_; refine zev ?_
 unfold sign
 refine run ?_
 refine cp (rkeyright_c k hs) ?_
 cases hr : k.right with
 | false =>
  rw [if_neg (by simp)]
  refine run ?_
  exact er0
 | true =>
  rw [if_pos rfl]
  obtain ⟨p1, p2⟩ := pub_range hr
  obtain ⟨q1, q2, _⟩ := Key.right_iff.1 hr
  have tm := text_le m hm
  have tw : (text wNonce).length = 6 := by rfl
  have l1 := numI_len k.secret (by omega)
  have hred := rsecret_c (text wNonce ++ numI k.secret ++ text m) (by simp only [List.length_append]; omega)
  change AC _ _ _ _ (.it .i64 (nonce k m : Nat)) _ at hred
  obtain ⟨n1, n2⟩ : 1 ≤ nonce k m ∧ nonce k m < 2305843009213693950 := reduce_lt _
  generalize nonce k m = u at *
  have hexp := rexp_c 37 (u : Int) (by omega) (by omega)
  rw [expI_nat 37 37 u rfl (by decide)] at hexp
  have hpl := powm_lt 37 u
  have hch := rchallenge_c (powm 37 u : Nat) k.pub m hm (by omega) (by omega)
  have hel := challenge_lt (powm 37 u : Nat) k.pub m
  generalize challenge (powm 37 u : Nat) k.pub m = e at *
  have hmul := rmulN_c (e : Int) k.secret (by omega) (by omega)
  have hml : mulNI e k.secret < 2305843009213693950 := Nat.mod_lt _ (by decide)
  have hadd := raddN_c (u : Int) (mulNI e k.secret : Nat) (by omega) (by omega)
  have hval : ((u : Int) % 2305843009213693950 + ((mulNI e k.secret : Nat) : Int) % 2305843009213693950) % 2305843009213693950 = (((u + e * k.secret.toNat) % 2305843009213693950 : Nat) : Int) := by
   have h1 : mulNI e k.secret = e * k.secret.toNat % 2305843009213693950 := by
    unfold mulNI
    rw [show ((e : Int) % 2305843009213693950).toNat = e by omega, show (k.secret % 2305843009213693950).toNat = k.secret.toNat by omega]
   rw [h1]
   generalize e * k.secret.toNat = z
   omega
  rw [hval] at hadd
  refine run ?_
  refine cp (ftext_c wNonce (by simp)) ?_
  refine run ?_
  refine cp (fnum_c k.secret (by omega)) ?_
  refine run ?_
  refine cp (ftext_c m (by omega)) ?_
  refine run ?_
  refine cp hred ?_
  refine run ?_
  refine cp hexp ?_
  refine run ?_
  refine cp hch ?_
  refine run ?_
  refine cp hmul ?_
  refine run ?_
  refine cp hadd ?_
  refine run ?_
  exact er0
theorem rcommit_c (p : Int) (s : Sig) (h1 : 1 ≤ p) (h2 : p < 2305843009213693951) (re : 0 ≤ s.e ∧ s.e < 2305843009213693950) (rs : 0 ≤ s.s ∧ s.s < 2305843009213693950) : AC Tryz.prog 191 [.it .i64 p, sigV s] [] (.it .i64 (commit p s : Nat)) [] := by
 refine AC.enter [185, 253] [] Tryz.func191 rfl (by decide) (by decide) znl (by kernel_rfl) ?_; refine zev ?_
 have x1 := rexp_c 37 s.s (by omega) (by omega)
 have x2 := rexp_c p (2305843009213693950 - s.e) (by omega) (by omega)
 have e1 : expI 37 s.s = powm 37 s.s.toNat := by
  have := expI_nat 37 37 s.s.toNat rfl (by decide)
  rwa [Int.toNat_of_nonneg rs.1] at this
 have e2 : expI p (2305843009213693950 - s.e) = powm p.toNat (2305843009213693950 - s.e).toNat := by
  have := expI_nat p p.toNat (2305843009213693950 - s.e).toNat (by omega) (by omega)
  rwa [Int.toNat_of_nonneg (by omega)] at this
 rw [e1] at x1
 rw [e2] at x2
 have l1 := powm_lt 37 s.s.toNat
 have l2 := powm_lt p.toNat (2305843009213693950 - s.e).toNat
 have hmul := rmul_c (powm 37 s.s.toNat : Nat) (powm p.toNat (2305843009213693950 - s.e).toNat : Nat) (by omega) (by omega)
 rw [mulI_nat l1 l2] at hmul
 change AC _ _ _ _ (.it .i64 ((commit p s : Nat) : Int)) _ at hmul
 generalize commit p s = c at *
 generalize powm 37 s.s.toNat = y1 at *
 generalize powm p.toNat (2305843009213693950 - s.e).toNat = y2 at *
 refine run ?_
 refine cp x1 ?_
 refine run ?_
 refine cp x2 ?_
 refine run ?_
 refine cp hmul ?_
 refine run ?_
 exact er0
theorem rranges_c (p : Int) (s : Sig) : AC Tryz.prog 190 [.it .i64 p, sigV s] [] (.bo (decide (1 ≤ p) && decide (p < 2305843009213693951) && decide (0 ≤ s.e) && decide (s.e < 2305843009213693950) && decide (0 ≤ s.s) && decide (s.s < 2305843009213693950))) [] := by
 refine AC.enter [] [] Tryz.func190 rfl (by decide) (by decide) znl (by kernel_rfl) ?_; refine zev ?_
 by_cases h1 : 1 ≤ p
 rotate_left
 ·rw [decide_eq_false h1]
  refine run ?_
  exact er0
 by_cases h2 : p < 2305843009213693951
 rotate_left
 ·rw [decide_eq_true h1, decide_eq_false h2]
  refine run ?_
  exact er0
 by_cases h3 : 0 ≤ s.e
 rotate_left
 ·rw [decide_eq_true h1, decide_eq_true h2, decide_eq_false h3]
  refine run ?_
  exact er0
 by_cases h4 : s.e < 2305843009213693950
 rotate_left
 ·rw [decide_eq_true h1, decide_eq_true h2, decide_eq_true h3, decide_eq_false h4]
  refine run ?_
  exact er0
 by_cases h5 : 0 ≤ s.s
 rotate_left
 ·rw [decide_eq_true h1, decide_eq_true h2, decide_eq_true h3, decide_eq_true h4, decide_eq_false h5]
  refine run ?_
  exact er0
 rw [decide_eq_true h1, decide_eq_true h2, decide_eq_true h3, decide_eq_true h4, decide_eq_true h5]
 refine run ?_
 exact er0
theorem rverify_c (p : Int) (m : By) (s : Sig) (hm : m.length ≤ 100000000) : AC Tryz.prog 109 [.it .i64 p, .st m, sigV s] [] (.bo (verify p m s)) [] := by
 refine AC.enter [190, 191, 184] [] Tryz.func109 rfl (by decide) (by decide) znl (by kernel_rfl) ?_; refine zev ?_
 have hc := rranges_c p s
 unfold verify inOrder
 by_cases h : 1 ≤ p ∧ p < 2305843009213693951 ∧ 0 ≤ s.e ∧ s.e < 2305843009213693950 ∧ 0 ≤ s.s ∧ s.s < 2305843009213693950
 ·obtain ⟨h1, h2, h3, h4, h5, h6⟩ := h
  rw [decide_eq_true h1, decide_eq_true h2, decide_eq_true h3, decide_eq_true h4, decide_eq_true h5, decide_eq_true h6] at hc ⊢
  have hco := rcommit_c p s h1 h2 ⟨h3, h4⟩ ⟨h5, h6⟩
  have hcl : commit p s < 2305843009213693951 := Nat.mod_lt _ (by decide)
  have hch := rchallenge_c (commit p s : Nat) p m hm (by omega) (by omega)
  generalize commit p s = c at *
  generalize challenge (c : Int) p m = h at *
  have hsym : ((h : Int) == s.e) = (s.e == (h : Int)) := by rw [Bool.eq_iff_iff]; simp only [beq_iff_eq]; exact eq_comm
  refine run ?_
  refine cp hc ?_
  refine run ?_
  refine cp hco ?_
  refine run ?_
  refine cp hch ?_
  refine runf @hsym ?_
  exact er0
 ·have e : (decide (1 ≤ p) && decide (p < 2305843009213693951) && decide (0 ≤ s.e) && decide (s.e < 2305843009213693950) && decide (0 ≤ s.s) && decide (s.s < 2305843009213693950)) = false := by
   rw [Bool.eq_false_iff]
   intro hh
   simp only [Bool.and_eq_true, decide_eq_true_eq] at hh
   omega
  have e2 : (decide (1 ≤ p) && decide (p < 2305843009213693951) && (decide (0 ≤ s.e) && decide (s.e < 2305843009213693950)) && (decide (0 ≤ s.s) && decide (s.s < 2305843009213693950)) && decide (s.e = (challenge (commit p s) p m : Nat))) = false := by
   rw [Bool.eq_false_iff]
   intro hh
   simp only [Bool.and_eq_true, decide_eq_true_eq] at hh
   omega
  rw [e] at hc
  rw [e2]
  refine run ?_
  refine cp hc ?_
  refine run ?_
  exact er0
end Go.Proofs.YtlefikdjhnaapaaGreatDoor.Pe
namespace Go.Proofs.YtlefikdjhnaapaaGreatDoor.Pe
open Go Go.RowKit Co Sg Ac It
set_option maxRecDepth 100000
set_option maxHeartbeats 4000000
theorem flist_c (l : List By) (hl : l.length ≤ 1000000) (hx : ∀ x ∈ l, x.length ≤ 1000000) : AC Tryz.prog 268 [sls l] [] (.st (list l)) [] := by
 refine AC.enter [110, 183] [] Tryz.func268 rfl (by decide) (by decide) znl (by kernel_rfl) ?_; refine zev ?_
 have hn9 := num_len9 (n := l.length) (by omega)
 have kn := fnum_c (l.length : Int) (by omega)
 rw [numI_nat] at kn
 refine run ?_
 refine cp kn ?_
 refine run ?_
 refine loop_mk (fun m e S => S = [] ∧ e 0 = sls l ∧ ∃ (k : Nat) (acc : By), e 3 = .st acc ∧ e 4 = .it .i64 (k : Int) ∧ acc = num l.length ++ ((l.take k).map text).flatten ∧ k ≤ l.length ∧ m = l.length - k) l.length
  ⟨rfl, zsl, 0, num l.length, zsl, zsl, by simp, by omega, rfl⟩ ?_
 rintro m e S ⟨rfl, s0, k, acc, s3, s4, hacc, hk, rfl⟩
 by_cases hlt : k < l.length
 ·have ga : l[k]? = some l[k] := List.getElem?_eq_getElem hlt
  have hxk := hx l[k] (List.getElem_mem hlt)
  have htl := text_len hxk
  have hal : acc.length ≤ 1000009000009 := by
   have h1 := fl_len (l := l.take k) fun x h => hx x (List.mem_of_mem_take h)
   have h2 : (l.take k).length * 1000009 ≤ 1000000 * 1000009 := Nat.mul_le_mul_right _ (by rw [List.length_take]; omega)
   rw [hacc, List.length_append]; omega
  have hft := fl_take hlt
  generalize l[k] = x at *
  refine runf (an @s0 (an @s3 (an @s4 @ga))) ?_
  refine cp (ftext_c x (by omega)) ?_
  refine runf (an @s0 (an @s3 @s4)) ?_
  refine round_mk (l.length - (k + 1)) (by omega) ⟨rfl, zsl, k + 1, acc ++ text x, zsl, zsl, by rw [hacc, hft, List.append_assoc], by omega, rfl⟩
 ·obtain rfl : k = l.length := by omega
  rw [List.take_length] at hacc
  refine runf (an @s0 (an @s3 @s4)) ?_
  rw [show list l = acc from hacc.symm]
  exact er0
theorem fclaim_c (c : It.Claim) (h1 : c.actor.length ≤ 1000000 ∧ c.prev.length ≤ 1000000) (h2 : ∀ x ∈ [c.base, c.gen, c.home, c.pub, c.time], -9223372036854775808 ≤ x ∧ x ≤ 9223372036854775807) : AC Tryz.prog 213 [claimV c] [] (.st (claimB c)) [] := by
 refine AC.enter [183, 110] [] Tryz.func213 rfl (by decide) (by decide) znl (by kernel_rfl) ?_; refine zev ?_
 simp only [List.forall_mem_cons] at h2
 have l1 := text_len h1.1
 have l2 := text_len h1.2
 have n1 := numI_le c.base (by omega)
 have n2 := numI_le c.gen (by omega)
 have n3 := numI_le c.home (by omega)
 have n4 := numI_le c.pub (by omega)
 have n5 := numI_le c.time (by omega)
 unfold claimB
 refine run ?_
 refine cp (ftext_c c.actor (by omega)) ?_
 refine run ?_
 refine cp (fnum_c c.base (by omega)) ?_
 refine run ?_
 refine cp (ftext_c c.prev (by omega)) ?_
 refine run ?_
 refine cp (fnum_c c.gen (by omega)) ?_
 refine run ?_
 refine cp (fnum_c c.home (by omega)) ?_
 refine run ?_
 refine cp (fnum_c c.pub (by omega)) ?_
 refine run ?_
 refine cp (fnum_c c.time (by omega)) ?_
 refine run ?_
 exact er0
theorem fballot_c (b : It.Ballot) (h1 : b.actor.length ≤ 1000000 ∧ b.claim.length ≤ 1000000) (h2 : ∀ x ∈ [b.server, b.gen, b.time], -9223372036854775808 ≤ x ∧ x ≤ 9223372036854775807) : AC Tryz.prog 215 [ballotV b] [] (.st (ballotB b)) [] := by
 refine AC.enter [183, 110] [] Tryz.func215 rfl (by decide) (by decide) znl (by kernel_rfl) ?_; refine zev ?_
 simp only [List.forall_mem_cons] at h2
 have l1 := text_len h1.1
 have l2 := text_len h1.2
 have n1 := numI_le b.server (by omega)
 have n2 := numI_le b.gen (by omega)
 have n3 := numI_le b.time (by omega)
 unfold ballotB
 refine run ?_
 refine cp (fnum_c b.server (by omega)) ?_
 refine run ?_
 refine cp (ftext_c b.actor (by omega)) ?_
 refine run ?_
 refine cp (fnum_c b.gen (by omega)) ?_
 refine run ?_
 refine cp (ftext_c b.claim (by omega)) ?_
 refine run ?_
 refine cp (fnum_c b.time (by omega)) ?_
 refine run ?_
 exact er0
theorem fdecision_c (d : It.Decision) (h1 : d.actor.length ≤ 1000000 ∧ d.object.length ≤ 1000000 ∧ d.text.length ≤ 1000000) (ht : d.to.length ≤ 1000000 ∧ ∀ s ∈ d.to, s.length ≤ 1000000) (h2 : ∀ x ∈ [d.server, d.number, d.kind, d.n, d.frm, d.til], -9223372036854775808 ≤ x ∧ x ≤ 9223372036854775807) : AC Tryz.prog 216 [decisionV d] [] (.st (decisionB d)) [] := by
 refine AC.enter [183, 110, 268] [] Tryz.func216 rfl (by decide) (by decide) znl (by kernel_rfl) ?_; refine zev ?_
 simp only [List.forall_mem_cons] at h2
 have l1 := text_len h1.1
 have l2 := text_len h1.2.1
 have l3 := text_len h1.2.2
 have n1 := numI_le d.server (by omega)
 have n2 := numI_le d.number (by omega)
 have n3 := numI_le d.kind (by omega)
 have n4 := numI_le d.n (by omega)
 have n5 := numI_le d.frm (by omega)
 have n6 := numI_le d.til (by omega)
 have ll := list_len ht.1 ht.2
 unfold decisionB
 refine run ?_
 refine cp (fnum_c d.server (by omega)) ?_
 refine run ?_
 refine cp (fnum_c d.number (by omega)) ?_
 refine run ?_
 refine cp (fnum_c d.kind (by omega)) ?_
 refine run ?_
 refine cp (ftext_c d.actor (by omega)) ?_
 refine run ?_
 refine cp (ftext_c d.object (by omega)) ?_
 refine run ?_
 refine cp (ftext_c d.text (by omega)) ?_
 refine run ?_
 refine cp (flist_c d.to ht.1 ht.2) ?_
 refine run ?_
 refine cp (fnum_c d.n (by omega)) ?_
 refine run ?_
 refine cp (fnum_c d.frm (by omega)) ?_
 refine run ?_
 refine cp (fnum_c d.til (by omega)) ?_
 refine run ?_
 exact er0
end Go.Proofs.YtlefikdjhnaapaaGreatDoor.Pe
end
section
namespace Go.Proofs.YtlefikdjhnaapaaGreatDoor.Pe
open Go Go.RowKit Co
set_option maxRecDepth 100000
set_option maxHeartbeats 4000000
def vlen : By → Nat → Nat
 | [], _ => 0
 | d :: r, i => if 9 ≤ i then 0 else if 128 ≤ d.toNat then vlen r (i + 1) else if d.toNat = 0 ∧ 0 < i then 0 else i + 1
theorem vlen_cons (d : UInt8) (r : By) (i : Nat) : vlen (d :: r) i = if 9 ≤ i then 0 else if 128 ≤ d.toNat then vlen r (i + 1) else if d.toNat = 0 ∧ 0 < i then 0 else i + 1 := rfl
def val : By → Nat
 | [] => 0
 | d :: r => d.toNat % 128 + 128 * val r
theorem vlen_gt : ∀ (l : By) (i : Nat), vlen l i = 0 ∨ (i < vlen l i ∧ vlen l i ≤ i + l.length ∧ vlen l i ≤ 9)
 | [], i => .inl rfl
 | d :: r, i => by
  rw [vlen_cons]
  by_cases h9 : 9 ≤ i
  ·rw [if_pos h9]; exact .inl rfl
  rw [if_neg h9]
  by_cases h128 : 128 ≤ d.toNat
  ·rw [if_pos h128, List.length_cons]
   rcases vlen_gt r (i + 1) with h | h
   ·exact .inl h
   ·exact .inr (by omega)
  ·rw [if_neg h128]
   by_cases hz : d.toNat = 0 ∧ 0 < i
   ·rw [if_pos hz]; exact .inl rfl
   ·rw [if_neg hz, List.length_cons]; exact .inr (by omega)
theorem rdN_vlen : ∀ (l : By) (i n : Nat), rdN l i n = if vlen l i = 0 then none else some (n + val (l.take (vlen l i - i)) * 2 ^ (7 * i), l.drop (vlen l i - i))
 | [], i, n => by rw [show vlen [] i = 0 from rfl, if_pos rfl]; rfl
 | d :: r, i, n => by
  rw [rdN_cons, vlen_cons]
  have hd : d.toNat < 256 := d.toNat_lt
  by_cases h9 : 9 ≤ i
  ·rw [if_pos h9, if_pos h9, if_pos rfl]
  rw [if_neg h9, if_neg h9]
  by_cases h128 : 128 ≤ d.toNat
  ·rw [if_pos h128, if_pos h128, rdN_vlen r (i + 1) _]
   rcases vlen_gt r (i + 1) with h | h
   ·rw [if_pos h, if_pos h]
   ·have e : vlen r (i + 1) - i = (vlen r (i + 1) - (i + 1)) + 1 := by omega
    have hp : 2 ^ (7 * (i + 1)) = 128 * 2 ^ (7 * i) := by rw [show 7 * (i + 1) = 7 + 7 * i from by omega, Nat.pow_add]
    rw [if_neg (by omega), if_neg (by omega), e, List.take_succ_cons, List.drop_succ_cons, val, hp, show d.toNat % 128 = d.toNat - 128 from by omega, Nat.add_mul, Nat.add_assoc]
    congr 3
    rw [Nat.mul_comm 128 (val _), Nat.mul_assoc]
  ·rw [if_neg h128, if_neg h128]
   by_cases hz : d.toNat = 0 ∧ 0 < i
   ·rw [if_pos hz, if_pos hz, if_pos rfl]
   ·rw [if_neg hz, if_neg hz, if_neg (by omega), show i + 1 - i = 0 + 1 from by omega, List.take_succ_cons, List.drop_succ_cons, List.take_zero, List.drop_zero]
    rw [show val [d] = d.toNat from by simp only [val]; omega]
theorem val_lt : ∀ (l : By), val l < 128 ^ l.length
 | [] => by decide
 | d :: r => by
  have := val_lt r
  rw [val, List.length_cons, Nat.pow_succ]
  omega
theorem val_lt9 {l : By} (h : l.length ≤ 9) : val l < 9223372036854775808 := Nat.lt_of_lt_of_le (val_lt l) (Nat.pow_le_pow_right (by omega) h)
theorem val_lt8 {l : By} (h : l.length ≤ 8) : val l < 72057594037927936 := Nat.lt_of_lt_of_le (val_lt l) (Nat.pow_le_pow_right (by omega) h)
theorem flength_c (l : By) (hl : l.length < 9223372036854775808) : AC Tryz.prog 179 [.st l] [] (.it .i64 (vlen l 0 : Nat)) [] := by
 refine AC.enter [] [] Tryz.func179 rfl (by decide) (by decide) znl (by kernel_rfl) ?_; refine zev ?_
 refine run ?_
 refine loop_mk (fun m e S => S = [] ∧ e 0 = .st l ∧ ∃ i : Nat, e 3 = .it .i64 (i : Int) ∧ i ≤ 9 ∧ i ≤ l.length ∧ vlen l 0 = vlen (l.drop i) i ∧ m = 9 - i) 9 ⟨rfl, zsl, 0, zsl, by omega, by omega, rfl, rfl⟩ ?_
 rintro m e S ⟨rfl, s0, i, s3, hi, hil, hv, rfl⟩
 by_cases hlt : i < l.length
 rotate_left
 ·rw [hv, List.drop_eq_nil_of_le (by omega)]
  refine runf (an @s0 @s3) ?_
  exact er0
 have hdr : l.drop i = l[i] :: l.drop (i + 1) := List.drop_eq_getElem_cons hlt
 have hg : l[i]? = some l[i] := List.getElem?_eq_getElem hlt
 generalize l[i] = d at *
 have hu : u8 d = .it .u8 (d.toNat : Int) := rfl
 have hd : d.toNat < 256 := d.toNat_lt
 rw [hdr, vlen_cons] at hv
 by_cases h9 : 9 ≤ i
 ·rw [if_pos h9] at hv
  rw [hv]
  refine runf (an @s0 @s3) ?_
  exact er0
 rw [if_neg h9] at hv
 by_cases h128 : 128 ≤ d.toNat
 ·rw [if_pos h128] at hv
  refine runf (an @s0 (an @s3 (an @hg @hu))) ?_
  exact round_mk (9 - (i + 1)) (by omega) ⟨rfl, zsl, i + 1, zsl, by omega, by omega, hv, rfl⟩
 rw [if_neg h128] at hv
 by_cases hz : d.toNat = 0 ∧ 0 < i
 ·rw [if_pos hz] at hv
  rw [hv]
  have hz0 := hz.1
  have hz1 := hz.2
  refine runf (an @s0 (an @s3 (an @hg (an @hu @hz0)))) ?_
  exact er0
 ·rw [if_neg hz] at hv
  rw [hv]
  by_cases hz0 : d.toNat = 0
  ·obtain rfl : i = 0 := by omega
   refine runf (an @s0 (an @s3 (an @hg (an @hu @hz0)))) ?_
   exact er0
  ·refine runf (an @s0 (an @s3 (an @hg @hu))) ?_
   exact er0
theorem fvalue_c : ∀ (l : By), l ≠ [] → l.length ≤ 9 → AC Tryz.prog 181 [.st l] [] (.it .i64 (val l : Nat)) []
 | [], h, _ => absurd rfl h
 | d :: r, _, hl => by
  have hu : u8 d = .it .u8 (d.toNat : Int) := rfl
  have hd : d.toNat < 256 := d.toNat_lt
  have hw : IntKind.i64.wrap (d.toNat : Int) = (d.toNat : Int) := wrap64 (by omega) (by omega)
  have hm : (d.toNat : Int).tmod 128 = ((d.toNat % 128 : Nat) : Int) := by rw [Int.tmod_eq_emod_of_nonneg (by omega)]; omega
  by_cases hr : r = []
  ·subst hr
   rw [show val [d] = d.toNat % 128 from by simp only [val]; omega]
   refine AC.enter [181] [] Tryz.func181 rfl (by decide) (by decide) znl (by kernel_rfl) ?_; refine zev ?_
   refine runf (an @hu (an @hw @hm)) ?_
   exact er0
  ·have ih := fvalue_c r hr (by rw [List.length_cons] at hl; omega)
   have hrl : 0 < r.length := List.length_pos_iff.2 hr
   have hv := val_lt8 (l := r) (by rw [List.length_cons] at hl; omega)
   have hl9 : r.length ≤ 8 := by rw [List.length_cons] at hl; omega
   rw [show val (d :: r) = d.toNat % 128 + 128 * val r from rfl]
   have e : ((d.toNat % 128 : Nat) : Int) + 128 * (val r : Int) = ((d.toNat % 128 + 128 * val r : Nat) : Int) := by push_cast; rfl
   have hdd : r.take r.length = r := List.take_length
   refine AC.enter [181] [] Tryz.func181 rfl (by decide) (by decide) znl (by kernel_rfl) ?_; refine zev ?_
   refine runf (an @hu (an @hw (an @hm @hdd))) ?_
   refine cp ih ?_
   refine runf @e ?_
   exact er0
theorem fopen_c (s : By) : AC Tryz.prog 100 [.st s] [] (.ptr 0 0) [rd ⟨s, false⟩] := by
 refine AC.enter [] [] Tryz.func100 rfl (by decide) (by decide) znl (by kernel_rfl) ?_; refine zev ?_
 refine run ?_
 exact ends_ret [0] (by rfl) (subOk_one 0 (by rfl) (by rfl)) (by rfl) (by rfl) (by rfl)
theorem ffail_c (x : R) : AC Tryz.prog 180 [.ptr 0 0] [rd x] (.tup []) [rd Co.fail] := by
 refine AC.enter [] [] Tryz.func180 rfl (by decide) (by decide) znl (by kernel_rfl) ?_; refine zev ?_
 refine run ?_
 exact en1
theorem fdone_c (x : R) : AC Tryz.prog 103 [.ptr 0 0] [rd x] (.bo (!x.bad && x.rest == [])) [rd x] := by
 refine AC.enter [] [] Tryz.func103 rfl (by decide) (by decide) znl (by kernel_rfl) ?_; refine zev ?_
 obtain ⟨r, b⟩ := x
 cases r with
 | nil =>
  cases b
  ·refine run ?_
   exact er1
  ·refine run ?_
   exact er1
 | cons d r =>
  have e : ((d :: r : By) == []) = false := rfl
  cases b
  ·refine runf @e ?_
   exact er1
  ·refine runf @e ?_
   exact er1
theorem frnum_c (x : R) (hx : x.rest.length < 9223372036854775808) : AC Tryz.prog 102 [.ptr 0 0] [rd x] (.it .i64 x.num.1) [rd x.num.2] := by
 refine AC.enter [179, 181] [] Tryz.func102 rfl (by decide) (by decide) znl (by kernel_rfl) ?_; refine zev ?_
 have hv := rdN_vlen x.rest 0 0
 have kl := flength_c x.rest hx
 unfold R.num
 rcases vlen_gt x.rest 0 with h | h
 ·rw [if_pos h] at hv
  rw [hv]
  rw [h] at kl
  refine run ?_
  refine cp kl ?_
  refine run ?_
  refine c1 0 (ffail_c x) ?_
  refine run ?_
  exact er1
 ·rw [if_neg (by omega)] at hv
  rw [hv]
  simp only [Nat.sub_zero, Nat.mul_zero, Nat.pow_zero, Nat.mul_one, Nat.zero_add] at h ⊢
  generalize vlen x.rest 0 = n at *
  have hlt : (x.rest.take n).length = n := by rw [List.length_take]; omega
  have kv := fvalue_c (x.rest.take n) (fun e => by rw [e] at hlt; simp at hlt; omega) (by omega)
  have hv9 := val_lt9 (l := x.rest.take n) (by omega)
  have hn0 : ¬ (n : Int) = 0 := by omega
  have hdd : x.rest.take x.rest.length = x.rest := List.take_length
  refine run ?_
  refine cp kl ?_
  refine runf @hn0 ?_
  refine cp kv ?_
  refine runf @hdd ?_
  exact er1
theorem ftake_c (x : R) (n : Nat) (hn : n < 9223372036854775808) (hx : x.rest.length < 9223372036854775808) : AC Tryz.prog 178 [.ptr 0 0, .it .i64 n] [rd x] (.st (x.take n).1) [rd (x.take n).2] := by
 refine AC.enter [] [] Tryz.func178 rfl (by decide) (by decide) znl (by kernel_rfl) ?_; refine zev ?_
 obtain ⟨r, b⟩ := x
 unfold R.take
 by_cases h : r.length < n
 ·rw [if_pos (.inr h)]
  refine run ?_
  refine c1 0 (ffail_c ⟨r, b⟩) ?_
  refine run ?_
  exact er1
 cases b
 rotate_left
 ·rw [if_pos (.inl rfl)]
  refine run ?_
  refine c1 0 (ffail_c ⟨r, true⟩) ?_
  refine run ?_
  exact er1
 ·rw [if_neg (by simp; omega)]
  have hdd : r.take r.length = r := List.take_length
  refine runf @hdd ?_
  exact er1
theorem frtext_c (x : R) (hx : x.rest.length < 9223372036854775808) : AC Tryz.prog 101 [.ptr 0 0] [rd x] (.st x.text.1) [rd x.text.2] := by
 refine AC.enter [] [] Tryz.func101 rfl (by decide) (by decide) znl (by kernel_rfl) ?_; refine zev ?_
 have h1 := num_lt x
 have h2 := num_rest x
 refine run ?_
 refine c1 0 (frnum_c x hx) ?_
 refine run ?_
 refine c1 0 (ftake_c x.num.2 x.num.1 (by omega) (by omega)) ?_
 refine run ?_
 exact er1
end Go.Proofs.YtlefikdjhnaapaaGreatDoor.Pe
end
section
namespace Go.Proofs.YtlefikdjhnaapaaGreatDoor.Pe
open Go Go.RowKit Co Sg Ac
set_option maxRecDepth 100000
set_option maxHeartbeats 4000000
theorem less_tri : ∀ (x y : By), (!Op.bytesLess x y) = (Op.bytesLess y x || y == x)
 | [], [] => rfl
 | _ :: _, [] => rfl
 | [], _ :: _ => rfl
 | a :: x, b :: y => by
  have ih := less_tri x y
  rw [Op.bytesLess, Op.bytesLess]
  by_cases h : a = b
  ·subst h
   have h0 : ¬ a < a := by rw [UInt8.lt_iff_toNat_lt]; omega
   have hb : (a == a) = true := beq_self_eq_true a
   rw [decide_eq_false h0, hb, show ((a :: y == a :: x) : Bool) = (y == x) from by simp]
   simpa using ih
  ·have h1 : (a == b) = false := by simpa using h
   have h2 : (b == a) = false := by simpa using fun e : b = a => h e.symm
   have h3 : ((b :: y == a :: x) : Bool) = false := by simpa using fun e : b = a => absurd e.symm h
   rw [h1, h2, h3]
   by_cases h4 : a < b
   ·have h5 : ¬ b < a := by rw [UInt8.lt_iff_toNat_lt] at *; omega
    simp [h4, h5]
   ·have h5 : b < a := by
     rw [UInt8.lt_iff_toNat_lt] at *
     have : a.toNat ≠ b.toNat := fun e => h (UInt8.toNat_inj.1 e)
     omega
    simp [h4, h5]
theorem fin_c (b l h : Nat) : AC Tryz.prog 272 [.it .u8 b, .it .u8 l, .it .u8 h] [] (.bo (decide (l ≤ b) && decide (b ≤ h))) [] := by
 refine AC.enter [] [] Tryz.func272 rfl (by decide) (by decide) znl (by kernel_rfl) ?_; refine zev ?_
 by_cases h1 : l ≤ b
 rotate_left
 ·have h1' : ¬ (l : Int) ≤ (b : Int) := by omega
  rw [decide_eq_false h1]
  refine runf @h1' ?_
  exact er0
 by_cases h2 : b ≤ h
 ·have h1' : (l : Int) ≤ (b : Int) := by omega
  have h2' : (b : Int) ≤ (h : Int) := by omega
  rw [decide_eq_true h1, decide_eq_true h2]
  refine runf (an @h1' @h2') ?_
  exact er0
 ·have h1' : (l : Int) ≤ (b : Int) := by omega
  have h2' : ¬ (b : Int) ≤ (h : Int) := by omega
  rw [decide_eq_true h1, decide_eq_false h2]
  refine runf (an @h1' @h2') ?_
  exact er0
theorem fidright_c (s : By) (hs : s.length ≤ 140737488355328) : AC Tryz.prog 220 [.st s] [] (.bo (idR s)) [] := by
 refine AC.enter [272] [] Tryz.func220 rfl (by decide) (by decide) znl (by kernel_rfl) ?_; refine zev ?_
 unfold idR
 refine run ?_
 refine loop_mk (fun m e S => S = [] ∧ e 0 = .st s ∧ ∃ k : Nat, e 3 = .it .i64 (k : Int) ∧ k ≤ s.length ∧ (s.take k).all hexc = true ∧ m = s.length - k) s.length ⟨rfl, zsl, 0, zsl, by omega, rfl, rfl⟩ ?_
 rintro m e S ⟨rfl, s0, k, s3, hk, hall, rfl⟩
 by_cases hlt : k < s.length
 rotate_left
 ·obtain rfl : k = s.length := by omega
  rw [List.take_length] at hall
  rw [hall]
  by_cases h16 : s.length = 16
  ·have h16' : (s.length : Int) = 16 := by omega
   rw [decide_eq_true h16]
   refine runf (an @s0 (an @s3 @h16')) ?_
   exact er0
  ·have h16' : ¬ (s.length : Int) = 16 := by omega
   rw [decide_eq_false h16]
   refine runf (an @s0 (an @s3 @h16')) ?_
   exact er0
 have hg : s[k]? = some s[k] := List.getElem?_eq_getElem hlt
 have hstep : s.take (k + 1) = s.take k ++ [s[k]] := List.take_succ_eq_append_getElem hlt
 have hbad : hexc s[k] = false → s.all hexc = false := fun h => List.all_eq_false.2 ⟨s[k], List.getElem_mem hlt, by simp [h]⟩
 generalize s[k] = b at *
 have hu : u8 b = .it .u8 (b.toNat : Int) := rfl
 have k1 := fin_c b.toNat 48 57
 have k2 := fin_c b.toNat 97 102
 have hx : hexc b = ((decide (48 ≤ b.toNat) && decide (b.toNat ≤ 57)) || (decide (97 ≤ b.toNat) && decide (b.toNat ≤ 102))) := rfl
 generalize (decide (48 ≤ b.toNat) && decide (b.toNat ≤ 57)) = c1 at *
 generalize (decide (97 ≤ b.toNat) && decide (b.toNat ≤ 102)) = c2 at *
 refine runf (an @s0 (an @s3 (an @hg @hu))) ?_
 refine cp k1 ?_
 cases c1 with
 | true =>
  refine runf (an @s0 (an @s3 (an @hg @hu))) ?_
  exact round_mk (s.length - (k + 1)) (by omega) ⟨rfl, zsl, k + 1, zsl, by omega, by rw [hstep, List.all_append, hall]; simp [hx], rfl⟩
 | false =>
  refine runf (an @s0 (an @s3 (an @hg @hu))) ?_
  refine cp k2 ?_
  cases c2 with
  | true =>
   refine runf (an @s0 (an @s3 (an @hg @hu))) ?_
   exact round_mk (s.length - (k + 1)) (by omega) ⟨rfl, zsl, k + 1, zsl, by omega, by rw [hstep, List.all_append, hall]; simp [hx], rfl⟩
  | false =>
   rw [hbad (by rw [hx]; rfl), Bool.and_false]
   refine runf (an @s0 (an @s3 (an @hg @hu))) ?_
   exact er0
theorem fname_c (s : By) (hs : s.length ≤ 140737488355328) : AC Tryz.prog 274 [.st s] [] (.bo (nameR s)) [] := by
 refine AC.enter [272] [] Tryz.func274 rfl (by decide) (by decide) znl (by kernel_rfl) ?_; refine zev ?_
 refine run ?_
 refine loop_mk (fun m e S => S = [] ∧ e 0 = .st s ∧ ∃ k : Nat, e 3 = .it .i64 (k : Int) ∧ k ≤ s.length ∧ (∀ j (hj : j < s.length), j < k → (if j = 0 then letter s[j] else namec s[j]) = true) ∧ m = s.length - k) s.length ⟨rfl, zsl, 0, zsl, by omega, fun j _ h => absurd h (Nat.not_lt_zero _), rfl⟩ ?_
 rintro m e S ⟨rfl, s0, k, s3, hk, hall, rfl⟩
 by_cases hlt : k < s.length
 rotate_left
 ·obtain rfl : k = s.length := by omega
  by_cases h1 : 1 ≤ s.length
  rotate_left
  ·have h1' : ¬ (1 : Int) ≤ (s.length : Int) := by omega
   obtain rfl : s = [] := List.eq_nil_of_length_eq_zero (by omega)
   refine runf (an @s0 (an @s3 @h1')) ?_
   exact er0
  have h1' : (1 : Int) ≤ (s.length : Int) := by omega
  by_cases h2 : s.length ≤ 24
  ·have h2' : (s.length : Int) ≤ 24 := by omega
   rw [nameR_true (by omega) h2 fun j hj => hall j hj hj]
   refine runf (an @s0 (an @s3 (an @h1' @h2'))) ?_
   exact er0
  ·have h2' : ¬ (s.length : Int) ≤ 24 := by omega
   rw [nameR_long (by omega)]
   refine runf (an @s0 (an @s3 (an @h1' @h2'))) ?_
   exact er0
 have hg : s[k]? = some s[k] := List.getElem?_eq_getElem hlt
 have hbad : (if k = 0 then letter s[k] else namec s[k]) = false → nameR s = false := nameR_false hlt
 have hgood : (if k = 0 then letter s[k] else namec s[k]) = true → ∀ j (hj : j < s.length), j < k + 1 → (if j = 0 then letter s[j] else namec s[j]) = true := fun h j hj hjk => by
  by_cases e : j = k
  ·subst e; exact h
  ·exact hall j hj (by omega)
 generalize s[k] = b at *
 have hu : u8 b = .it .u8 (b.toNat : Int) := rfl
 have k1 := fin_c b.toNat 97 122
 have k2 := fin_c b.toNat 48 57
 have hx : letter b = (decide (97 ≤ b.toNat) && decide (b.toNat ≤ 122)) := rfl
 have hy : namec b = (letter b || (decide (48 ≤ b.toNat) && decide (b.toNat ≤ 57)) || decide (b.toNat = 95)) := rfl
 rw [← hx] at k1
 clear hx
 generalize (decide (48 ≤ b.toNat) && decide (b.toNat ≤ 57)) = c2 at *
 refine runf (an @s0 (an @s3 (an @hg @hu))) ?_
 refine cp k1 ?_
 cases hl : letter b with
 | true =>
  rw [hl] at hy hgood
  refine runf (an @s0 (an @s3 (an @hg @hu))) ?_
  exact round_mk (s.length - (k + 1)) (by omega) ⟨rfl, zsl, k + 1, zsl, by omega, hgood (by rw [hy]; simp), rfl⟩
 | false =>
  rw [hl] at hy hbad hgood
  by_cases h0 : k = 0
  ·subst h0
   rw [hbad (by simp)]
   refine runf (an @s0 (an @s3 (an @hg @hu))) ?_
   exact er0
  have h0' : ¬ (k : Int) = 0 := by omega
  rw [if_neg h0] at hbad hgood
  cases c2 with
  | true =>
   refine runf (an @s0 (an @s3 (an @hg (an @hu @h0')))) ?_
   refine cp k2 ?_
   refine runf (an @s0 (an @s3 (an @hg @hu))) ?_
   exact round_mk (s.length - (k + 1)) (by omega) ⟨rfl, zsl, k + 1, zsl, by omega, hgood (by rw [hy]; simp), rfl⟩
  | false =>
   by_cases h95 : b.toNat = 95
   ·have e95 : ((b.toNat : Int) != 95) = false := by rw [h95]; rfl
    refine runf (an @s0 (an @s3 (an @hg (an @hu @h0')))) ?_
    refine cp k2 ?_
    refine runf (an @s0 (an @s3 (an @hg (an @hu @e95)))) ?_
    exact round_mk (s.length - (k + 1)) (by omega) ⟨rfl, zsl, k + 1, zsl, by omega, hgood (by rw [hy, h95]; rfl), rfl⟩
   ·have e95 : ((b.toNat : Int) != 95) = true := bneT (by omega)
    rw [hbad (by rw [hy, decide_eq_false h95]; rfl)]
    refine runf (an @s0 (an @s3 (an @hg (an @hu @h0')))) ?_
    refine cp k2 ?_
    refine runf (an @s0 (an @s3 (an @hg (an @hu @e95)))) ?_
    exact er0
theorem fids_c (l : List By) (hs : ∀ s ∈ l, s.length ≤ 140737488355328) (hl : l.length ≤ 140737488355328) : AC Tryz.prog 223 [sls l] [] (.bo (idsR l)) [] := by
 refine AC.enter2 [220] [] Tryz.func223 rfl (by decide) (by decide) znl (by kernel_rfl) ?_; refine zev ?_
 unfold idsR
 refine run ?_
 refine loop_mk (fun m e S => S = [] ∧ e 0 = sls l ∧ ∃ k : Nat, e 3 = .it .i64 (k : Int) ∧ k ≤ l.length ∧ (∀ j (h : j < l.length), j < k → idR l[j] = true) ∧
  (∀ j (h : j + 1 < l.length), j + 1 < k → (Op.bytesLess l[j + 1] l[j] || l[j + 1] == l[j]) = false) ∧ m = l.length - k) l.length ⟨rfl, zsl, 0, zsl, by omega, fun j _ h => absurd h (Nat.not_lt_zero _), fun j _ h => absurd h (Nat.not_lt_zero _), rfl⟩ ?_
 rintro m e S ⟨rfl, s0, k, s3, hk, hid, hasc, rfl⟩
 by_cases hlt : k < l.length
 rotate_left
 ·obtain rfl : k = l.length := by omega
  have h1 : l.all idR = true := List.all_eq_true.2 fun x hx => by
   obtain ⟨j, hj, rfl⟩ := List.getElem_of_mem hx
   exact hid j hj hj
  rw [h1, asc_true fun j h => hasc j h h]
  by_cases h64 : l.length ≤ 64
  ·have h64' : (l.length : Int) ≤ 64 := by omega
   rw [decide_eq_true h64]
   refine runf (an @s0 (an @s3 @h64')) ?_
   exact er0
  ·have h64' : ¬ (l.length : Int) ≤ 64 := by omega
   rw [decide_eq_false h64]
   refine runf (an @s0 (an @s3 @h64')) ?_
   exact er0
 have hg : l[k]? = some l[k] := List.getElem?_eq_getElem hlt
 have hsk := hs l[k] (List.getElem_mem hlt)
 have ki := fidright_c l[k] hsk
 cases hb : idR l[k] with
 | false =>
  have : l.all idR = false := List.all_eq_false.2 ⟨l[k], List.getElem_mem hlt, by simp [hb]⟩
  rw [this, Bool.and_false, Bool.false_and]
  rw [hb] at ki
  refine runf (an @s0 (an @s3 @hg)) ?_
  refine cp ki ?_
  refine runf (an @s0 (an @s3 @hg)) ?_
  exact er0
 | true =>
  rw [hb] at ki
  have hid' : ∀ j (h : j < l.length), j < k + 1 → idR l[j] = true := fun j h hj => by
   by_cases e : j = k
   ·subst e; exact hb
   ·exact hid j h (by omega)
  cases k with
  | zero =>
   refine runf (an @s0 (an @s3 @hg)) ?_
   refine cp ki ?_
   refine runf (an @s0 (an @s3 @hg)) ?_
   exact round_mk (l.length - 1) (by omega) ⟨rfl, zsl, 1, zsl, by omega, hid', fun j _ h => by omega, rfl⟩
  | succ k =>
   have hg' : l[k]? = some l[k] := List.getElem?_eq_getElem (by omega)
   have hc : ((k + 1 : Nat) : Int) - 1 = (k : Int) := by omega
   have hpos : (0 : Int) < ((k + 1 : Nat) : Int) := by omega
   cases hcmp : (Op.bytesLess l[k + 1] l[k] || l[k + 1] == l[k]) with
   | true =>
    have hcm : Op.bytesLess l[k] l[k + 1] = false := by
     have := less_tri l[k] l[k + 1]
     rw [hcmp] at this
     simpa using this
    rw [asc_false (j := k) hlt hcmp, Bool.and_false]
    refine runf (an @s0 (an @s3 @hg)) ?_
    refine cp ki ?_
    refine runf (an @s0 (an @s3 (an @hg (an @hg' (an @hc (an @hcm @hpos)))))) ?_
    exact er0
   | false =>
    have hcm : Op.bytesLess l[k] l[k + 1] = true := by
     have := less_tri l[k] l[k + 1]
     rw [hcmp] at this
     simpa using this
    refine runf (an @s0 (an @s3 @hg)) ?_
    refine cp ki ?_
    refine runf (an @s0 (an @s3 (an @hg (an @hg' (an @hc (an @hcm @hpos)))))) ?_
    exact round_mk (l.length - (k + 1 + 1)) (by omega) ⟨rfl, zsl, k + 1 + 1, zsl, by omega, hid', fun j h hj => by
     by_cases e : j = k
     ·subst e; exact hcmp
     ·exact hasc j h (by omega), rfl⟩
end Go.Proofs.YtlefikdjhnaapaaGreatDoor.Pe
end
