import Derived.Test.YtiidnoejnphocaaGreatDoorKs4
import Derived.Below
import Derived.ChangeSame
import Derived.ProofKit
import Derived.OpenShut
import Derived.ShutString
import Derived.Deep.Strs
import Derived.SizedLaws
import Derived.Deep.Slices
import Derived.ChangeArms
import Derived.Laws.Entries
set_option linter.unusedSectionVars false
set_option linter.unusedVariables false
set_option linter.unusedSimpArgs false
namespace Go.Proofs.YtiidnoejnphocaaGreatDoor
section
namespace Pe
open Go Go.RowKit
variable [Tab]
structure AO where
 dst : Option Nat
 op : Op
 gd : Option (Option Nat × Bool)
inductive CC where
 | skip | rfunc (N : Nat) (g : Operand) (ps : Array Tmp) (asn bdy : Code) | reg (l : List AO) | seq (a b : CC) | cond (c : Operand) (t f : CC) | block (id : Nat) (b : CC) | loop (b : CC) | exit (id : Nat) | ret | bad
inductive AX where
 | norm | exit (id : Nat) | ret
def C9 (ops : Array Oper) (o : Oper) : AO := ⟨o.dst, o.op, match o.guard with
 | none => none
 | some (j, want) => some ((ops[j]?).bind (·.dst), want)⟩
def Cn (k : Option Nat) : Code → CC
 | .skip => .skip
 | .label _ => .skip
 | .region _ ops _ => .reg (ops.toList.map (C9 ops))
 | .seq a b => .seq (Cn k a) (Cn k b)
 | .cond c a b => .cond c (Cn k a) (Cn k b)
 | .block id b => .block id (Cn k b)
 | .loop b => .loop (Cn k b)
 | .exit id => .exit id
 | .ret => .ret
 | .rangeFunc g ps asn bdy => match k with
  | some N => .rfunc N g ps asn bdy
  | none => .bad
 | _ => .bad
abbrev DS : Code → CC := Cn none
def Es : Code → Bool
 | .seq a b => Es a && Es b
 | .cond _ a b => Es a && Es b
 | .block _ b => Es b
 | .loop b => Es b
 | .rangeFunc _ _ _ _ => false
 | _ => true
def Gx (N : Nat) (e : Af) : List AV := (List.range N).map e
def EP (gd : Option (Option Nat × Bool)) (e : Af) : Option Bool :=
 match gd with
 | none => some true
 | some (none, _) => some false
 | some (some d, want) => match e d with
  | .bo b => some (b == want)
  | .tup [] => some false
  | _ => none
def Bi (P : Program) (pf rf : List FuncId) : List AO → Af → Ae → (Af → Ae → Prop) → Prop
 | [], e, S, K => K e S
 | o :: rest, e, S, K => BB (EP o.gd e) fun b => C8 b (AR P pf rf o.op e S fun v S' => Bi P pf rf rest (put e o.dst v) S' K) (Bi P pf rf rest (put e o.dst (.tup [])) S K)
def Ay (N0 : Nat) (e : Af) (S : Ae) (e' : Af) (S' : Ae) : Prop :=
 ∀ (N : Nat) (w0 : World) (g0 : Gh) (a : Act) (w : World), g0.nid = N0 → AJ N w0 g0 e S a w → AJ N w0 g0 e' S' a w
def Cb (Q : AX → Af → Ae → Prop) (next : Af → Ae → Prop) : AX → Af → Ae → Prop
 | .norm => next
 | x => Q x
def Jj (N0 : Nat) (I : Nat → Af → Ae → Prop) (n : Nat) (e : Af) (S : Ae) : Prop := ∃ n' e' S', n' < n ∧ Ay N0 e S e' S' ∧ I n' e' S'
def HQ (N0 : Nat) (B : (AX → Af → Ae → Prop) → Af → Ae → Prop) (Q : AX → Af → Ae → Prop) (e : Af) (S : Ae) : Prop :=
 ∃ I : Nat → Af → Ae → Prop, (∃ n e' S', Ay N0 e S e' S' ∧ I n e' S') ∧ ∀ n e S, I n e S → B (Cb Q (Jj N0 I n)) e S
def Ee (id : Nat) (Q : AX → Af → Ae → Prop) : AX → Af → Ae → Prop
 | .exit i => if i = id then Q .norm else Q (.exit i)
 | x => Q x
def Qf (P : Program) (N : Nat) (g : Operand) (ps : Array Tmp) (asn bdy : Code) (K : Af → Ae → Prop) (e : Af) (S : Ae) : Prop :=
 match ev e g with
 | .fn (.func f) fa ca => ∃ v S' U, S'.length = S.length ∧ (∀ b D fn, AC P f (fa ++ [.fn (.yield b) [] []] ++ ca) (S ++ [.loop b D fn (Gx N e) ps asn bdy .ready]) v (S' ++ .loop b D fn (Gx N e) ps asn bdy .ready :: U)) ∧ K e (S' ++ .dead :: U)
 | _ => False
def AW (P : Program) (pf rf : List FuncId) (N0 : Nat) : CC → (AX → Af → Ae → Prop) → Af → Ae → Prop
 | .skip, Q, e, S => Q .norm e S
 | .reg l, Q, e, S => Bi P pf rf l e S (Q .norm)
 | .seq a b, Q, e, S => AW P pf rf N0 a (Cb Q (AW P pf rf N0 b Q)) e S
 | .cond c t f, Q, e, S => match ev e c with
  | .bo b => C8 b (AW P pf rf N0 t Q e S) (AW P pf rf N0 f Q e S)
  | _ => False
 | .block id b, Q, e, S => AW P pf rf N0 b (Ee id Q) e S
 | .loop b, Q, e, S => HQ N0 (AW P pf rf N0 b) Q e S
 | .exit id, Q, e, S => Q (.exit id) e S
 | .ret, Q, e, S => Q .ret e S
 | .rfunc N g ps asn bdy, Q, e, S => ∃ e1 S1, Ay N0 e S e1 S1 ∧ Qf P N g ps asn bdy (Q .norm) e1 S1
 | .bad, _, _, _ => False
def Ew (P : Program) (pf rf : List FuncId) (N : Nat) : Code → Bool
 | .region _ ops draw => Db N ops && (!draw || O0 (AT P pf rf) ops)
 | .seq a b => Ew P pf rf N a && Ew P pf rf N b
 | .cond _ a b => Ew P pf rf N a && Ew P pf rf N b
 | .block _ b => Ew P pf rf N b
 | .loop b => Ew P pf rf N b
 | .rangeFunc _ _ asn bdy => Es asn && Es bdy
 | _ => true
def ED (N : Nat) (w0 : World) (g0 : Gh) (Q : AX → Af → Ae → Prop) : Exit → Act → World → Prop
 | .normal, a, w => ∃ e S, AJ N w0 g0 e S a w ∧ Q .norm e S
 | .exit id, a, w => ∃ e S, AJ N w0 g0 e S a w ∧ Q (.exit id) e S
 | .ret, a, w => ∃ e S, AJ N w0 g0 e S a w ∧ Q .ret e S
 | _, _, _ => False
section
variable {P : Program} {N N0 : Nat} {w0 : World} {g0 : Gh} {pf rf : List FuncId}
theorem EU {ops : Array Oper} {Q : Af → Ae → Prop} : ∀ (l : List Oper) (e : Af) (S : Ae), Bi P pf rf (l.map (C9 ops)) e S Q → CG P (AT P pf rf) ops Q l e S
 | [], e, S, h => h
 | o :: rest, e, S, h => by
  simp only [List.map_cons, Bi] at h;have hg : EP (C9 ops o).gd e = BP ops o e := by
   unfold C9 BP;cases hgd : o.guard with
   | none => rfl
   | some p =>
    obtain ⟨j, want⟩ := p;simp only [EP, LE];cases hd : (ops[j]?).bind (·.dst) with
    | none => cases want <;> rfl
    | some d =>
     simp only
     cases he : e d with
     | bo b => cases b <;> cases want <;> rfl
     | tup vs => cases vs <;> cases want <;> rfl
     | _ => rfl
  rw [hg] at h;unfold CG;obtain ⟨b, hb, h⟩ := Cr h
  ·simp only [hb]
   cases b with
   | true =>
    obtain ⟨v, S', h1, h2⟩ := LL (o := o) (h.1 rfl);exact ⟨v, S', h1, EU rest _ _ h2⟩
   | false => exact EU rest _ _ (h.2 rfl)
theorem Le.below {w w' : World} (g : Gh) (h : Below w.heap.size w w') : Le w g w' g :=
 ⟨fun b o v _ hv => by rw [World.cell?_of_block (w := w) (w' := w') (h.block b (World.block_lt_of_cell? w _ hv))]; exact hv, fun _ _ _ h _ => h, Nat.le_refl _, fun _ _ => ⟨rfl, .inl ⟨rfl, rfl, rfl⟩⟩, fun b me c h h' => ⟨h, by rw [Below.block ‹_› b (Array.getElem?_eq_some_iff.1 h').1]; exact h'⟩⟩
theorem WF.below {w w' : World} {g : Gh} {S : Ae} (hw : WF w g S) (h : Below w.heap.size w w') : WF w' g S := by
 refine ⟨hw.nid, fun l o hl => ?_, hw.disj, fun l b hl hb => ?_, hw.tab.le (Le.below g h)⟩
 ·have hlt : l < g.nid := by rw [hw.nid]; exact (List.getElem?_eq_some_iff.1 hl).1
  exact (hw.obj l o hl).keep (Le.below g h) rfl rfl rfl rfl rfl (fun _ _ => rfl) (fun b hb => h.block b (hw.lt l b hlt hb))
 ·have := hw.lt l b hl hb
  have := h.size;omega
theorem Evo.below {w w' : World} (g : Gh) (h : Below w.heap.size w w') : Evo w g w' g :=
 ⟨Le.below g h, h.os, h.tape, h.output, h.size, fun b hb _ => h.block b hb, fun _ _ hl hb _ => ⟨hl, hb⟩, fun _ _ _ => rfl⟩
theorem JU {F : Fence} {n : Nat} {P : Program} {Q : Exit → Act → World → Prop} {a : Act} {w : World} {c : Code} (I : Nat → Act → World → Prop) (n₀ : Nat) (h₀ : I n₀ a w)
  (round : ∀ n' a w, I n' a w → c.wpIn F n P (Exit.then (fun a' w' => ∃ n'', n'' < n' ∧ I n'' a' w') Q) a w) : (Code.loop c).wpIn F n P Q a w := by
 refine wpIn_loop (fun a w => ∃ n, I n a w) (fun a w => leastOf (fun n => I n a w)) ⟨n₀, h₀⟩ ?_
 intro a w hI;refine Go.wpIn_mono (round _ a w (leastOf_spec hI).1) ?_
 intro e a' w' hq;cases e with
 | normal =>
  obtain ⟨n', hlt, hI'⟩ := hq;exact show (∃ n, I n a' w') ∧ leastOf (fun n => I n a' w') < leastOf (fun n => I n a w) from ⟨⟨n', hI'⟩, Nat.lt_of_le_of_lt ((leastOf_spec ⟨n', hI'⟩).2 n' hI') hlt⟩
 | exit id => exact hq
 | goto l => exact hq
 | ret => exact hq
 | panic ch => exact hq
 | outgrown => exact hq
theorem Dh.le {w w' : World} {g g' : Gh} {e : Af} {a : Act} (h : Dh w g e a) (hl : Le w g w' g') : Dh w' g' e a := fun t => (h t).le hl
theorem ZcG {w : World} {g : Gh} {e : Af} {a : Act} (h : Dh w g e a) : ∀ (j : Nat) u x, (Gx a.tmps.size e)[j]? = some u → a.tmps[j]? = some x → Rel w g u x := by
 intro j u x hu hx;unfold Gx at hu;rw [List.getElem?_map] at hu
 obtain ⟨y, hy, rfl⟩ := Option.map_eq_some_iff.1 hu;have hj : y = j := by
  rw [List.getElem?_range (by have := (List.getElem?_eq_some_iff.1 hy).1; simpa using this)] at hy
  simpa using hy.symm
 subst hj;have := h y;rw [Array.getD_eq_getD_getElem?, hx] at this;exact this
theorem Ze8 {g : Operand} {ps : Array Tmp} {asn bdy : Code} {Q : AX → Af → Ae → Prop} {e : Af} {S : Ae} {a : Act} {w : World} (hc : AJ N w0 g0 e S a w) (h : Qf P N g ps asn bdy (Q .norm) e S) :
  (Code.rangeFunc g ps asn bdy).wpIn (wR none) 0 P (ED N w0 g0 Q) a w := by
 obtain ⟨hsz, _, gh, hw, he, hD⟩ := hc;unfold Qf at h;split at h
 ·rename_i f fa ca hf
  obtain ⟨v, S', U, hlen, hac, hK⟩ := h;refine wpIn_rangeFunc fun fn _ => ?_
  have hgv := JC he g;rw [hf] at hgv;generalize hcf : a.eval g = cf at hgv;cases hgv with
  | fn _ _ _ _ fav cav hfs hcs hrf hrc =>
   have hB : Below w.heap.size w (w.alloc (.deferred (some []))) := (Below.refl _ w).alloc (Nat.le_refl _) _;have hw1 := hw.below hB;have hE1 := Evo.below gh hB;have hsz1 : (w.alloc (.deferred (some []))).heap.size = w.heap.size + 1 := by simp
   let r : Loop := { state := .ready, pending := none, fn, tmps := a.tmps, params := ps, assign := asn, body := bdy, defers := w.heap.size }
   have hpush := hw1.alloc_push (.loop r) false 0 0 0 (o := .loop (w.heap.size + 1) w.heap.size fn (Gx N e) ps asn bdy .ready) (by
    refine ⟨by simp [Gh.push], by simp [Gh.push], by simp [Gh.push], by simp [Gh.push], a.tmps, ?_, by simp [Gx, hsz], ?_⟩
    ·simp only [Gh.push, if_true]
     exact World.alloc_heap_new _ _
    ·have := ZcG (he.le (hE1.toLe.trans (Le.push_new _ gh (.loop r) false 0 0 0)))
     rw [hsz] at this;exact this)
   obtain ⟨hw2, hE2⟩ := hpush;have hE := hE1.trans hE2;have hfb : (Instr.enterLoop fn a.tmps ps asn bdy (wR none).round).run P w = .ok (w.heap.size + 1, [{ target := .collected w.heap.size, args := #[] }]) ((w.alloc (.deferred (some []))).alloc (.loop r)) := run_enterLoop_outer fn a.tmps ps asn bdy;have hres : ∀ w', (resolve a.eval (rangeCall g (w.heap.size + 1)) 0).run P w' = .ok { target := .fn (.func f) cav, args := fav ++ #[.func (.yield (w.heap.size + 1)) #[] #[]] } w' := fun w' => by
    simp only [resolve, rangeCall, hcf, Deferred.ofValue, Sem.run_bind, Sem.run_pure, Result.andThen_ok, List.map_toArray, List.map_cons, List.map_nil];rfl
   have hac' := hac (w.heap.size + 1) w.heap.size fn;refine ⟨w.heap.size + 1, _, _, _, _, f, fav ++ #[.func (.yield (w.heap.size + 1)) #[] #[]] ++ cav, (w.alloc (.deferred (some []))).alloc (.loop r), hfb, hres _, fun _ _ => trivial, ?_, fun q => by simp [wR, Fence.wide] at q, ?_⟩
   ·simp only [invoke]
    exact Rk hac'.can _ _
   ·have hyl : ∀ w' g', Rel w' g' (.fn (.yield (w.heap.size + 1)) [] []) (.func (.yield (w.heap.size + 1)) #[] #[]) := fun w' g' => .fn g' (.yield (w.heap.size + 1)) [] [] #[] #[] rfl rfl (by simp) (by simp)
    have hargs : Fg ((w.alloc (.deferred (some []))).alloc (.loop r)) (gh.push (w.alloc (.deferred (some []))).heap.size false 0 0 0) (fa ++ [.fn (.yield (w.heap.size + 1)) [] []] ++ ca) (fav ++ #[.func (.yield (w.heap.size + 1)) #[] #[]] ++ cav) := by
     refine ⟨by simp [hfs, hcs]; omega, fun j u x hu hx => ?_⟩
     have hx' : (fav.toList ++ [.func (.yield (w.heap.size + 1)) #[] #[]] ++ cav.toList)[j]? = some x := by
      rw [← hx, ← Array.getElem?_toList]
      simp
     have l1 : fav.toList.length = fa.length := by simpa using hfs
     rw [List.append_assoc, List.getElem?_append] at hu hx'
     rw [l1] at hx';split at hu
     ·rename_i h1
      rw [if_pos h1] at hx';exact (hrf j u x hu (by simpa using hx')).le hE.toLe
     ·rename_i h1
      rw [if_neg h1] at hx';cases hj : j - fa.length with
      | zero =>
       rw [hj] at hu hx';simp at hu hx'
       subst hu; subst hx';exact hyl _ _
      | succ m =>
       rw [hj] at hu hx';simp at hu hx'
       exact (hrc m u x hu (by simpa using hx')).le hE.toLe
    refine (U8 (hac'.run _ _ _ hw2 hargs) none _).mono ?_
    rintro r' w3 ⟨cv, g3, rfl, hw3, _, hE3⟩
    have hl3 : (S' ++ .loop (w.heap.size + 1) w.heap.size fn (Gx N e) ps asn bdy .ready :: U)[S.length]? = some (.loop (w.heap.size + 1) w.heap.size fn (Gx N e) ps asn bdy .ready) := by
     rw [← hlen, List.getElem?_append_right (Nat.le_refl _), Nat.sub_self]; rfl
    obtain ⟨b1, b2, b3, b4, tm, b5, b6, b7⟩ := hw3.obj _ _ hl3;rw [b4] at b5;refine ⟨none, _, run_endLoop b5 (by simp), ?_⟩
    have hput := hw3.put (o := .dead) (ob := .loop { state := .exhausted, pending := none, fn, tmps := tm, params := ps, assign := asn, body := bdy, defers := w.heap.size }) (List.getElem?_eq_some_iff.1 hl3).1 b2 b3 trivial
    obtain ⟨hw4, hE4⟩ := hput;rw [b4] at hw4 hE4;have hset : (S' ++ SObj.loop (w.heap.size + 1) w.heap.size fn (Gx N e) ps asn bdy .ready :: U).set S.length .dead = S' ++ .dead :: U := by
     rw [← hlen, List.set_append_right _ _ (Nat.le_refl _), Nat.sub_self]; rfl
    rw [hset] at hw4;have hEall := (hE.trans hE3).trans hE4;refine ⟨e, S' ++ .dead :: U, ⟨hsz, trivial, g3, hw4, he.le hEall.toLe, ?_⟩, hK⟩
    have hD' := hD.trans hEall;refine ⟨hD'.toEvo, fun d hd => ?_, ?_⟩
    ·simp only [List.cons_append, List.nil_append, List.mem_cons] at hd
     rcases hd with rfl | hd
     ·have hno : ∀ l, l < (gh.push (w.alloc (.deferred (some []))).heap.size false 0 0 0).nid → ¬ (gh.push (w.alloc (.deferred (some []))).heap.size false 0 0 0).own l w.heap.size := by
       intro l hl ho;simp only [Gh.push, hsz1] at hl ho;split at ho
       ·omega
       ·have := hw.lt l _ (by omega) ho
        omega
      have hlt2 : w.heap.size < ((w.alloc (.deferred (some []))).alloc (.loop r)).heap.size := by simp; omega
      have hE34 := hE3.trans hE4;refine ⟨w.heap.size, rfl, hD.size, Nat.lt_of_lt_of_le hlt2 hE34.size, ?_, fun l hl ho => ?_⟩
      ·exact (hE34.old _ hlt2 hno).trans ((hE2.old _ (by simp) (fun l hl ho => by have := hw.lt l _ hl ho; omega)).trans (World.alloc_heap_new _ _))
      ·have := hE34.own l _ hl ho hlt2
       exact hno l this.1 this.2
     ·exact hD'.defs d hd
    ·simp only [List.cons_append, List.nil_append, List.map_cons, List.nodup_cons]
     refine ⟨fun hm => ?_, hD.nodup⟩
     obtain ⟨d, hd, hdt⟩ := List.mem_map.1 hm;obtain ⟨b, q1, _, q3, _⟩ := hD.defs d hd;rw [hdt] at q1;cases q1
     omega
 ·exact h.elim
theorem Ze5 (k : Option Nat) (hk : ∀ M, k = some M → M = N) (ro : Option Nat) (hm : P.follows .mixedOrders = true) (hN0 : g0.nid = N0) : ∀ (c : Code) (Q : AX → Af → Ae → Prop) (e : Af) (S : Ae) (a : Act) (w : World), Ew P pf rf N c = true → (ro = none ∨ Es c = true) → AJ N w0 g0 e S a w → AW P pf rf N0 (Cn k c) Q e S → c.wpIn (wR ro) 0 P (ED N w0 g0 Q) a w := by
 intro c;induction c with
 | skip => intro Q e S a w _ _ hc h; exact wpIn_skip ⟨e, S, hc, h⟩
 | label l => intro Q e S a w _ _ hc h; exact wpIn_label ⟨e, S, hc, h⟩
 | ret => intro Q e S a w _ _ hc h; exact wpIn_ret ⟨e, S, hc, h⟩
 | exit id => intro Q e S a w _ _ hc h; exact wpIn_exit ⟨e, S, hc, h⟩
 | region id ops draw =>
  intro Q e S a w hok hrf hc h;simp only [Ew, Bool.and_eq_true] at hok;simp only [Cn, AW] at h;have hL := EU ops.toList e S h;have hQ : ∀ e S a w, AJ N w0 g0 e S a w → Q .norm e S → ED N w0 g0 Q .normal a w := fun e S a w hc hq => ⟨e, S, hc, hq⟩
  cases draw with
  | false => exact Mu hok.1 hQ hc hL ro
  | true => exact ZH hm (by simpa using hok.2) hok.1 hQ hc hL ro
 | seq x y ihx ihy =>
  intro Q e S a w hok hrf hc h;simp only [Ew, Bool.and_eq_true] at hok;simp only [Cn, AW] at h;refine wpIn_seq (Go.wpIn_mono (ihx _ e S a w hok.1 (hrf.imp id fun q => (by simpa [Es] using q : _ ∧ _).1) hc h) ?_)
  intro ex a' w' hq;cases ex with
  | normal => obtain ⟨e', S', hc', h'⟩ := hq; exact ihy Q e' S' a' w' hok.2 (hrf.imp id fun q => (by simpa [Es] using q : _ ∧ _).2) hc' h'
  | exit id => exact hq
  | ret => exact hq
  | _ => exact hq.elim
 | cond c x y ihx ihy =>
  intro Q e S a w hok hrf hc h;simp only [Ew, Bool.and_eq_true] at hok;simp only [Cn, AW] at h;split at h
  ·rename_i b hb
   have hcb : a.eval c = .bool b := by
    obtain ⟨_, _, g, _, h4, _⟩ := hc;have := JC h4 c;rw [hb] at this;cases hv : a.eval c <;> rw [hv] at this <;> cases this
    rfl
   refine wpIn_cond_split hcb (fun ht => ihx Q e S a w hok.1 (hrf.imp id fun q => (by simpa [Es] using q : _ ∧ _).1) hc (h.1 ht)) (fun hf => ihy Q e S a w hok.2 (hrf.imp id fun q => (by simpa [Es] using q : _ ∧ _).2) hc (h.2 hf))
  ·exact h.elim
 | block id c ih =>
  intro Q e S a w hok hrf hc h;simp only [Cn, AW] at h;refine wpIn_block (Go.wpIn_mono (ih _ e S a w hok hrf hc h) ?_)
  intro ex a' w' hq;cases ex with
  | normal => exact hq
  | exit i =>
   obtain ⟨e', S', hc', h'⟩ := hq;simp only [Ee] at h';simp only [Exit.inBlock];by_cases hi : i = id
   ·rw [if_pos hi] at h' ⊢; exact ⟨e', S', hc', h'⟩
   ·rw [if_neg hi] at h' ⊢; exact ⟨e', S', hc', h'⟩
  | ret => exact hq
  | _ => exact hq.elim
 | loop c ih =>
  intro Q e S a w hok hrf hc h;simp only [Cn, AW] at h;obtain ⟨I, ⟨n, e', S', hwk, hI⟩, hround⟩ := h;refine JU (fun n a w => ∃ e S, AJ N w0 g0 e S a w ∧ I n e S) n ⟨e', S', hwk N w0 g0 a w hN0 hc, hI⟩ ?_
  rintro n a w ⟨e, S, hc, hI⟩
  refine Go.wpIn_mono (ih _ e S a w hok hrf hc (hround n e S hI)) ?_
  intro ex a' w' hq;cases ex with
  | normal =>
   obtain ⟨e1, S1, hc1, n', e2, S2, hlt, hwk', hI'⟩ := hq;exact ⟨n', hlt, e2, S2, hwk' N w0 g0 a' w' hN0 hc1, hI'⟩
  | exit i => exact hq
  | ret => exact hq
  | _ => exact hq.elim
 | rangeFunc g ps asn bdy _ _ =>
  intro Q e S a w hok hrf hc h;rcases hrf with rfl | hrf
  ·simp only [Cn] at h
   cases k with
   | none => exact h.elim
   | some M =>
    have hMN := hk M rfl;subst hMN;obtain ⟨e1, S1, hwk, h⟩ := h;exact Ze8 (hwk M w0 g0 a w hN0 hc) h
  ·cases hrf
 | _ => intro Q e S a w _ _ _ h; exact h.elim
theorem Ws {c : Code} (ro : Option Nat) (hrf : ro = none ∨ Es c = true) (hm : P.follows .mixedOrders = true) (hN0 : g0.nid = N0) (Q : AX → Af → Ae → Prop) (e : Af) (S : Ae) (a : Act) (w : World) (hok : Ew P pf rf N c = true) (hc : AJ N w0 g0 e S a w) (h : AW P pf rf N0 (DS c) Q e S) : c.wpIn (wR ro) 0 P (ED N w0 g0 Q) a w :=
 Ze5 none (fun _ e => by cases e) ro hm hN0 c Q e S a w hok hrf hc h
end
def Cg (P : Program) (rs : List ResultVar) (e : Af) (S : Ae) : Option (List AV) :=
 match rs with
 | [] => some []
 | .tmp t :: rest => (Cg P rest e S).map (e t :: ·)
 | .cell a t :: rest => match DW (Az P t) S (e a), Cg P rest e S with
  | some v, some vs => some (v :: vs)
  | _, _ => none
def Cu : List AV → AV
 | [v] => v
 | vs => .tup vs
def Ex (args : List AV) : Af := fun t => args.getD t .junk
def Fin (P : Program) (rs : List ResultVar) (N0 : Nat) (v : AV) (S' : Ae) (e : Af) (S : Ae) : Prop :=
 ∃ e1 S1 vs κ, Ay N0 e S e1 S1 ∧ Cg P rs e1 S1 = some vs ∧ SubOk κ S1 S' ∧ κ.take N0 = List.range N0 ∧ v.ok κ.length = true ∧ (Cu vs = v.ren (AA κ) ∨ (Cu vs).wk = v.ren (AA κ))
def CO (P : Program) (rs : List ResultVar) (N0 : Nat) (v : AV) (S' : Ae) : AX → Af → Ae → Prop
 | .norm => Fin P rs N0 v S'
 | .ret => Fin P rs N0 v S'
 | .exit _ => fun _ _ => False
section
variable {P : Program}
theorem ZeM {w : World} {g : Gh} {S : Ae} (hw : WF w g S) {ty : TypeId} {x v : AV} {cx : Value} (hx : Rel w g x cx) (h : DW (Az P ty) S x = some v) : ∃ ad cv, cx = .pointer (some ad) ∧ (loadVar ty ad).run P w = .ok cv w ∧ Rel w g v cv := by
 unfold DW at h;split at h
 ·rename_i sz ag l off hs
  split at h
  ·rename_i cs hS
   obtain ⟨arr, T, fr, h4, h5, hc, hl, _⟩ := OK hw hS;cases hx
   obtain ⟨cv, h1, h2⟩ := KZ (P := P) hc (b := g.pl l) (o := 0) (fun j hj => by rw [Nat.zero_add, cell_of_row w (g.pl l) j arr T fr h4]) hs h
   rw [Nat.zero_add] at h1;exact ⟨_, cv, rfl, h1, h2⟩
  ·cases h
 ·rename_i sz ag v' off hs
  cases hx with
  | pst _ _ _ b o' cu hA h1 hr' =>
   have hc : AB w g v'.cells ((List.range v'.cells.length).map cu).toArray := by
    refine ⟨by simp, fun u hu => ?_, fun j u z hu hz => ?_⟩
    ·simp only [List.mem_map, List.mem_range] at hu
     obtain ⟨j, hj, rfl⟩ := hu;exact h1 j hj
    ·have hj := (List.getElem?_eq_some_iff.1 hu).1
     simp [List.getElem?_range hj] at hz
     rw [← hz];exact (hr' j u hu).ofNoid
   obtain ⟨cv, h2, h3⟩ := KZ (P := P) hc (b := b) (o := o') (fun j hj => by
    have hj' : j < v'.cells.length := by simpa using hj
    rw [(hA j hj').2];simp [List.getElem?_range hj']) hs h
   exact ⟨_, cv, rfl, h2, h3⟩
 ·rename_i sz ag l n off hs
  split at h
  ·rename_i cs el z hS
   split at h
   ·rename_i hc0
    exact Rr (P := P) hw hs hS hc0 h hx
   ·cases h
  ·cases h
 ·cases h
def Mt (tmps : Array Value) : ResultVar → Sem Value
 | .tmp t => pure (tmps.getD t undef)
 | .cell a t => do loadVar t (← asAddr (tmps.getD a undef))
theorem P7 {w : World} {g : Gh} {S : Ae} {e : Af} {a : Act} (hw : WF w g S) (he : Dh w g e a) : ∀ (rs : List ResultVar) (vs : List AV), Cg P rs e S = some vs →
  ∃ cvs : List Value, (rs.mapM (Mt a.tmps)).run P w = .ok cvs w ∧ cvs.length = vs.length ∧
   ∀ (j : Nat) u v, vs[j]? = some u → cvs[j]? = some v → Rel w g u v
 | [], vs, h => by
  cases h
  exact ⟨[], by simp, rfl, by simp⟩
 | .tmp t :: rest, vs, h => by
  simp only [Cg] at h;obtain ⟨vs', h1, rfl⟩ := Option.map_eq_some_iff.1 h;obtain ⟨cvs, h2, h3, h4⟩ := P7 hw he rest vs' h1;refine ⟨a.tmps.getD t undef :: cvs, by simp only [List.mapM_cons, Sem.run_bind, Mt, Sem.run_pure, Result.andThen_ok, h2], by simp [h3], fun j u v hu hv => ?_⟩
  cases j with
  | zero =>
   simp only [List.getElem?_cons_zero, Option.some.injEq] at hu hv
   rw [← hu, ← hv]; exact he t
  | succ j => exact h4 j u v (by simpa using hu) (by simpa using hv)
 | .cell x t :: rest, vs, h => by
  simp only [Cg] at h;split at h
  ·rename_i v' vs' h0 h1
   cases h
   obtain ⟨cvs, h2, h3, h4⟩ := P7 hw he rest vs' h1;obtain ⟨ad, cv, h5, h6, h7⟩ := ZeM hw (he x) h0;refine ⟨cv :: cvs, by simp only [List.mapM_cons, Sem.run_bind, Mt, h5, asAddr, Sem.run_pure, Result.andThen_ok, h6, h2], by simp [h3], fun j u v hu hv => ?_⟩
   cases j with
   | zero => simp at hu hv; rw [← hu, ← hv]; exact h7
   | succ j => exact h4 j u v (by simpa using hu) (by simpa using hv)
  ·cases h
theorem Zz {w : World} {g : Gh} {S : Ae} {e : Af} {a : Act} (hw : WF w g S) (he : Dh w g e a) {fn : Func} {vs : List AV} (h : Cg P fn.results.toList e S = some vs) :
  ∃ cv, (results fn a.tmps).run P w = .ok cv w ∧ Rel w g (Cu vs) cv := by
 obtain ⟨cvs, h1, h2, h3⟩ := P7 hw he fn.results.toList vs h;have hrun : (results fn a.tmps).run P w = .ok (if h : cvs.toArray.size = 1 then cvs.toArray[0] else .tuple cvs.toArray) w := by
  have hf : results fn a.tmps = (do let vs ← fn.results.mapM (Mt a.tmps); pure (if h : vs.size = 1 then vs[0] else .tuple vs)) := by
   unfold results;congr 1
  rw [hf, Sem.run_bind, Array.mapM_eq_mapM_toList, Sem.run_map, h1];rfl
 refine ⟨_, hrun, ?_⟩
 match vs, cvs, h2, h3 with
 | [u], [v], _, h3 => exact h3 0 u v rfl rfl
 | [], [], _, _ => exact .tup g [] #[] rfl (by simp)
 | u :: u' :: us, v :: v' :: cs, h2, h3 =>
  have : ¬ (v :: v' :: cs).toArray.size = 1 := by simp
  rw [dif_neg this];exact .tup g _ _ (by simpa using h2) (fun j u v hu hv => h3 j u v hu (by simpa using hv))
theorem Evo.sub {w0 w : World} {g0 g : Gh} {κ : List Nat} (h : Evo w0 g0 w g) (hn : κ.Nodup) (hin : ∀ i, i < κ.length → AA κ i < g.nid) (hk : κ.take g0.nid = List.range g0.nid) : Evo w0 g0 w (g.sub κ) := by
 have hlen : g0.nid ≤ κ.length := by
  have := congrArg List.length hk;rw [List.length_take, List.length_range] at this;omega
 have hid : ∀ l, l < g0.nid → AA κ l = l := by
  intro l hl
  have : κ[l]? = some l := by
   rw [← List.getElem?_take_of_lt hl, hk, List.getElem?_range hl]
  unfold AA;rw [List.getD_eq_getElem?_getD, this]
  rfl
 refine ⟨⟨h.cell, h.G, hlen, fun l hl => ?_, h.map⟩, h.os, h.tape, h.output, h.size, h.old, fun l b hl hb hlt => ?_, h.Gold⟩
 ·have := h.keep l hl
  show g.buf (AA κ l) = _ ∧ ((g.pl (AA κ l) = _ ∧ g.wm (AA κ l) = _ ∧ g.cap (AA κ l) = _) ∨ (_ ∧ _ < g.wm (AA κ l)))
  rw [hid l hl];exact this
 ·have hb' : g.own (AA κ l) b := hb
  have hl' : l < κ.length := hl;obtain ⟨h1, h2⟩ := h.own (AA κ l) b (hin l hl') hb' hlt;have h3 : AA κ (AA κ l) = AA κ l := hid _ h1;have h4 := O8 hn (by omega) hl' h3
  rw [h4] at h1 h2;exact ⟨h1, h2⟩
theorem SubOk.lt {w : World} {g : Gh} {S S' : Ae} {κ : List Nat} (hs : SubOk κ S S') (h : WF w g S) : ∀ i, i < κ.length → AA κ i < g.nid := by
 intro i hi;have hi' : i < S'.length := by rw [hs.len]; exact hi
 have h2 := (hs.ok i _ (List.getElem?_eq_getElem hi')).2
 rw [h.nid];exact (List.getElem?_eq_some_iff.1 h2).1
theorem Le.aside {w : World} {g : Gh} {b : Nat} {D : Option (List Deferred)} (h : w.heap[b]? = some (.deferred D)) (ob : Obj) : Le w g { w with heap := w.heap.setIfInBounds b ob } g := by
 have hne : ∀ {b' o : Nat} {v : Value}, w.cell? ⟨b', o, none⟩ = some v → b' ≠ b := fun hv e => by
  subst e;simp [World.cell?, h] at hv
 refine ⟨fun b' o v hb hv => ?_, fun _ _ _ h _ => h, Nat.le_refl _, fun _ _ => ⟨rfl, .inl ⟨rfl, rfl, rfl⟩⟩, fun b' me c hg hm => ⟨hg, (Gt (fun e => by subst e; rw [h] at hm; cases hm)).trans hm⟩⟩
 rw [World.cell?_of_block (w := w) (Gt (hne hv))]
 exact hv
theorem WF.aside {w : World} {g : Gh} {S : Ae} {b : Nat} {D : Option (List Deferred)} (hw : WF w g S) (h : w.heap[b]? = some (.deferred D)) (hno : ∀ l, l < g.nid → ¬ g.own l b) (ob : Obj) : WF { w with heap := w.heap.setIfInBounds b ob } g S := by
 have hle := Le.aside (g := g) h ob;refine ⟨hw.nid, fun l o hl => ?_, hw.disj, fun l b' hl hb => ?_, hw.tab.le hle⟩
 ·have hlt : l < g.nid := by rw [hw.nid]; exact (List.getElem?_eq_some_iff.1 hl).1
  exact (hw.obj l o hl).keep hle rfl rfl rfl rfl rfl (fun _ _ => rfl) (fun b' hb => Gt fun e => hno l hlt (by rw [← e]; exact hb))
 ·have := hw.lt l b' hl hb
  simpa using this
theorem SQ {fn : Func} {R : Ending → World → Prop} {w0 : World} {g0 g : Gh} {e : Af} {S : Ae} {a : Act} : ∀ (D : List Deferred) (w : World), WF w g S → Dh w g e a → EvD w0 g0 w g D →
  (∀ w', WF w' g S → Dh w' g e a → Evo w0 g0 w' g → ∃ v, (results fn a.tmps).run P w' = .ok v w' ∧ R (.returned v) w') → LeavesInM (wR none) 0 P fn a.tmps R D .returning w
 | [], w, hw, he, hD, h => h w hw he hD.toEvo
 | d :: D, w, hw, he, hD, h => by
  obtain ⟨b, h1, h2, h3, h4, h5⟩ := hD.defs d (by simp)
  have hle := Le.aside (g := g) h4 (.deferred none);refine ⟨by simp, .inl ⟨b, w.putObj b (.deferred none), h1, run_takeDeferred h4, SQ D _ (hw.aside h4 h5 _) (fun t => (he t).le hle) ⟨⟨hD.toLe.trans hle, hD.os, hD.tape, hD.output, by simpa [World.putObj] using hD.size, fun b' hb hn => (Gt (fun e => by omega)).trans (hD.old b' hb hn), hD.own, hD.Gold⟩, fun d' hd' => ?_, (by have := hD.nodup; simp only [List.map_cons, List.nodup_cons] at this; exact this.2)⟩ h⟩⟩
  obtain ⟨b', k1, k2, k3, k4, k5⟩ := hD.defs d' (by simp [hd'])
  have hne : b' ≠ b := fun e => by
   have := hD.nodup;simp only [List.map_cons, List.nodup_cons] at this;exact this.1 (List.mem_map.2 ⟨d', hd', by rw [k1, h1, e]⟩)
  exact ⟨b', k1, k2, by simpa [World.putObj] using k3, (Gt hne).trans k4, k5⟩
theorem AC.of_wp {f : FuncId} {fn : Func} {c : Code} {args : List AV} {S S' : Ae} {v : AV} (hf : P.funcs[f]? = some fn) (hb : fn.body = some c) (hname : fn.name ≠ "runtime.NumGoroutine") (hn : args.length ≤ fn.ntmps)
  (h : ∀ (w : World) (g : Gh) (a : Act), g.nid = S.length → AJ fn.ntmps w g (Ex args) S a w → c.wpIn (wR none) 0 P (ED fn.ntmps w g (CO P fn.results.toList S.length v S')) a w) : AC P f args S v S' := by
 refine ⟨by simp [Lw, hf, hb, hname], fun w g cargs hw hargs => ?_⟩
 refine (callsIn_wide (n := 0)).1 (callsIn_of_wp_marks hf hb trivial ?_)
 have hc : AJ fn.ntmps w g (Ex args) S { tmps := cargs ++ Array.replicate (fn.ntmps - cargs.size) undef, defers := [] } w := by
  refine ⟨by simp [hargs.1]; omega, trivial, g, hw, fun t => ?_, .none (Evo.refl w g)⟩
  show Rel w g (args.getD t .junk) ((cargs ++ Array.replicate (fn.ntmps - cargs.size) undef).getD t undef)
  rw [List.getD_eq_getElem?_getD]
  cases ht : args[t]? with
  | none => exact .junk _ _
  | some u =>
   have hlt : t < cargs.size := by rw [hargs.1]; exact (List.getElem?_eq_some_iff.1 ht).1
   have h1 : cargs[t]? = some cargs[t] := Array.getElem?_eq_getElem hlt
   rw [Array.getD_eq_getD_getElem?, Array.getElem?_append_left hlt, h1]
   exact hargs.2 t u _ ht h1
 refine Go.wpIn_mono (h w g _ hw.nid hc) ?_
 have fin : ∀ a' w' e1 S1, AJ fn.ntmps w g e1 S1 a' w' → Fin P fn.results.toList S.length v S' e1 S1 → LeavesInM (wR none) 0 P fn a'.tmps (fun r w' => ∃ cv' g', r = .returned cv' ∧ WF w' g' S' ∧ Rel w' g' v cv' ∧ Evo w g w' g') a'.defers .returning w' := by
  rintro a' w' e0 S0 hc0 ⟨e1, S1, vs, κ, k0, k1, k2, k3, k4, k5⟩
  obtain ⟨_, _, g1, h3, h4, h5⟩ := k0 fn.ntmps w g a' w' hw.nid hc0;refine SQ a'.defers w' h3 h4 h5 fun w' h3 h4 h5 => ?_
  obtain ⟨cv, r1, r2⟩ := Zz h3 h4 k1;refine ⟨cv, r1, cv, g1.sub κ, rfl, h3.sub k2, ?_, h5.sub k2.nodup (k2.lt h3) (by rw [hw.nid]; exact k3)⟩
  rcases k5 with k5 | k5
  ·rw [k5] at r2
   exact Rel.unren (GL w' g1 κ) r2 k4
  ·have r3 := r2.wk
   rw [k5] at r3;exact Rel.unren (GL w' g1 κ) r3 k4
 intro ex a' w' hq;cases ex with
 | normal => obtain ⟨e1, S1, hc1, h1⟩ := hq; exact fin a' w' e1 S1 hc1 h1
 | ret => obtain ⟨e1, S1, hc1, h1⟩ := hq; exact fin a' w' e1 S1 hc1 h1
 | exit id => obtain ⟨e1, S1, hc1, h1⟩ := hq; exact h1.elim
 | _ => exact hq.elim
theorem AC.enter {f : FuncId} {fn : Func} {c : Code} {args : List AV} {S S' : Ae} {v : AV} (pf rf : List FuncId) (hf : P.funcs[f]? = some fn) (hb : fn.body = some c) (hname : fn.name ≠ "runtime.NumGoroutine") (hm : P.follows .mixedOrders = true)
  (hn : args.length ≤ fn.ntmps) (hok : Ew P pf rf fn.ntmps c = true) (h : AW P pf rf S.length (DS c) (CO P fn.results.toList S.length v S') (Ex args) S) : AC P f args S v S' :=
 AC.of_wp hf hb hname hn fun w g a hg hc => Ws none (.inl rfl) hm hg _ (Ex args) S a w hok hc h
end
end Pe
namespace Pe
open Go Go.RowKit
variable [Tab]
def Lu (v : AV) (X Y : Prop) : Prop :=
 match v with
 | .bo b => C8 b X Y
 | _ => False
@[congr] theorem ZgK {v u : AV} (X Y : Prop) (h : v = u) : Lu v X Y = Lu u X Y := by rw [h]
theorem UY (b : Bool) (X Y : Prop) : Lu (.bo b) X Y = C8 b X Y := rfl
def Jz (P : Program) (pf rf : List FuncId) (t : Nat) (v : AV) (args : List AV) (S : Ae) (K : AV → Ae → Prop) : Prop :=
 match v with
 | .fn (.func f) fa ca => Du (Qh P pf rf (.tmp t) f (fa ++ args ++ ca) S) K
 | .fn (.yield b) fa [] => Du (Qc P pf rf t b (fa ++ args) S) K
 | _ => False
@[congr] theorem Zgt {P : Program} {pf rf : List FuncId} {t : Nat} {v u : AV} (args : List AV) (S : Ae) (K : AV → Ae → Prop) (h : v = u) : Jz P pf rf t v args S K = Jz P pf rf t u args S K := by rw [h]
theorem TK (P : Program) (pf rf : List FuncId) (t : Nat) (f : FuncId) (fa ca args : List AV) (S : Ae) (K : AV → Ae → Prop) : Jz P pf rf t (.fn (.func f) fa ca) args S K =
  Du (if pf.contains (t + 1000000) then JM P f (fa ++ args ++ ca) S else if rf.contains (t + 1000000) then NG P f (fa ++ args ++ ca) S else Fh P pf rf f (fa ++ args ++ ca) S) K := rfl
theorem TJ (P : Program) (pf rf : List FuncId) (t b : Nat) (args : List AV) (S : Ae) (K : AV → Ae → Prop) : Jz P pf rf t (.fn (.yield b) [] []) args S K = Du (Qc P pf rf t b args S) K := rfl
def LJ (P : Program) (pf rf : List FuncId) (N0 : Nat) (c : CC) (Q : AX → Af → Ae → Prop) (e : Af) (S : Ae) : Prop := AW P pf rf N0 c Q e S
def Qe (P : Program) (pf rf : List FuncId) (l : List AO) (e : Af) (S : Ae) (K : Af → Ae → Prop) : Prop := Bi P pf rf l e S K
def Qg (P : Program) (pf rf : List FuncId) (op : Op) (e : Af) (S : Ae) (K : AV → Ae → Prop) : Prop := AR P pf rf op e S K
def IF (k : Kd) (X Y : Unit → Prop) : Prop :=
 match k with
 | .bytes => X ()
 | _ => Y ()
@[congr] theorem ZgD {k k' : Kd} (X Y : Unit → Prop) (h : k = k') : IF k X Y = IF k' X Y := by rw [h]
theorem UX (X Y : Unit → Prop) : IF .bytes X Y = X () := rfl
theorem UW (k : IntKind) (X Y : Unit → Prop) : IF (.int k) X Y = Y () := rfl
theorem UV (X Y : Unit → Prop) : IF .str X Y = Y () := rfl
def FJ (P : Program) (pf rf : List FuncId) (d : Option Nat) (rest : List AO) (e : Af) (K : Af → Ae → Prop) : AV → Ae → Prop := fun v S' => Bi P pf rf rest (put e d v) S' K
def De (x : Option AV) (K : AV → Ae → Prop) (S : Ae) : Prop := BB x fun v => K v S
def Nu (x : Option Ae) (K : AV → Ae → Prop) : Prop := BB x fun S' => K .junk S'
def Vu (x : Option (List AV)) (K : AV → Ae → Prop) (S : Ae) : Prop := BB x fun cs => K (.ptr S.length 0) (S ++ [.cells cs])
def JG (x : Option (AV × Ae)) (K : AV → Ae → Prop) : Prop := BB x fun r => K r.1 r.2
def Vs (x : Option Unit) (K : AV → Ae → Prop) (S : Ae) : Prop := BB x fun _ => K (.mp S.length) (S ++ [.map []])
def To (x : Option Bool) (A B : Prop) : Prop := BB x fun b => C8 b A B
theorem Vm (v : AV) (K : AV → Ae → Prop) (S : Ae) : De (some v) K S = K v S := rfl
theorem Vn (S' : Ae) (K : AV → Ae → Prop) : Nu (some S') K = K .junk S' := rfl
def Vl (x : Option (List AV)) (t : TypeId) (K : AV → Ae → Prop) (S : Ae) : Prop := BB x fun z => K (.ptr S.length 0) (S ++ [FK t z])
theorem Vk (z : List AV) (t : TypeId) (K : AV → Ae → Prop) (S : Ae) : Vl (some z) t K S = K (.ptr S.length 0) (S ++ [FK t z]) := rfl
theorem Vt (cs : List AV) (K : AV → Ae → Prop) (S : Ae) : Vu (some cs) K S = K (.ptr S.length 0) (S ++ [.cells cs]) := rfl
theorem Vo (v : AV) (S' : Ae) (K : AV → Ae → Prop) : JG (some (v, S')) K = K v S' := rfl
theorem Vr (K : AV → Ae → Prop) (S : Ae) : Vs (some ()) K S = K (.mp S.length) (S ++ [.map []]) := rfl
theorem Tn (b : Bool) (A B : Prop) : To (some b) A B = C8 b A B := rfl
theorem Hd {x : Option AV} {K : AV → Ae → Prop} {S : Ae} (v : AV) (h : x = some v) (h' : K v S) : De x K S := by rw [h]; exact h'
def RX (v x y : AV) (K : AV → Ae → Prop) (S : Ae) : Prop :=
 match v with
 | .bo t => K (if t then x else y) S
 | _ => False
theorem RW (b : Bool) (x y : AV) (K : AV → Ae → Prop) (S : Ae) : RX (.bo b) x y K S = K (if b then x else y) S := rfl
def Z9 (v x y : AV) (K : AV → Prop) : Prop :=
 match v with
 | .bo t => K (if t then x else y)
 | _ => False
section
variable (P : Program) (pf rf : List FuncId) (N0 : Nat) (Q : AX → Af → Ae → Prop) (next : Af → Ae → Prop) (e : Af) (S : Ae) (K : AV → Ae → Prop)
theorem Wo : AW P pf rf N0 .skip Q e S = Q .norm e S := rfl
theorem Wq (l : List AO) : AW P pf rf N0 (.reg l) Q e S = Bi P pf rf l e S (Q .norm) := rfl
theorem LK (a b : CC) : AW P pf rf N0 (.seq a b) Q e S = AW P pf rf N0 a (Cb Q (AW P pf rf N0 b Q)) e S := rfl
theorem Ww (c : Operand) (t f : CC) : AW P pf rf N0 (.cond c t f) Q e S = Lu (ev e c) (LJ P pf rf N0 t Q e S) (LJ P pf rf N0 f Q e S) := rfl
theorem Wx (id : Nat) (b : CC) : AW P pf rf N0 (.block id b) Q e S = AW P pf rf N0 b (Ee id Q) e S := rfl
theorem Wt (b : CC) : AW P pf rf N0 (.loop b) Q e S = HQ N0 (AW P pf rf N0 b) Q e S := rfl
theorem Wu (id : Nat) : AW P pf rf N0 (.exit id) Q e S = Q (.exit id) e S := rfl
theorem Wp : AW P pf rf N0 .ret Q e S = Q .ret e S := rfl
theorem QO : Cb Q next .norm e S = next e S := rfl
theorem QN : Cb Q next .ret e S = Q .ret e S := rfl
theorem QP (id : Nat) : Cb Q next (.exit id) e S = Q (.exit id) e S := rfl
theorem Vh (id : Nat) : Ee id Q .norm e S = Q .norm e S := rfl
theorem Vg (id : Nat) : Ee id Q .ret e S = Q .ret e S := rfl
theorem Vf (id : Nat) : Ee id Q (.exit id) e S = Q .norm e S := by simp [Ee]
theorem Vi (id i : Nat) : Ee id Q (.exit i) e S = if i = id then Q .norm e S else Q (.exit i) e S := by
 show (if i = id then Q .norm else Q (.exit i)) e S = _
 split <;> rfl
theorem WA (K : Af → Ae → Prop) : Bi P pf rf [] e S K = K e S := rfl
theorem WC (d : Option Nat) (op : Op) (rest : List AO) (K : Af → Ae → Prop) : Bi P pf rf (⟨d, op, none⟩ :: rest) e S K = AR P pf rf op e S (FJ P pf rf d rest e K) := by
 show C8 true _ _ = _
 rw [Fx];rfl
theorem WB (d : Option Nat) (op : Op) (gd : Option Nat × Bool) (rest : List AO) (K : Af → Ae → Prop) : Bi P pf rf (⟨d, op, some gd⟩ :: rest) e S K =
  To (EP (some gd) e) (Qg P pf rf op e S (FJ P pf rf d rest e K)) (Qe P pf rf rest (put e d (.tup [])) S K) := rfl
theorem NH (c : CC) : LJ P pf rf N0 c Q e S = AW P pf rf N0 c Q e S := rfl
theorem NI (l : List AO) (K : Af → Ae → Prop) : Qe P pf rf l e S K = Bi P pf rf l e S K := rfl
theorem NJ (op : Op) : Qg P pf rf op e S K = AR P pf rf op e S K := rfl
theorem S7 (c : CC) (Y : Prop) : C8 true (LJ P pf rf N0 c Q e S) Y = AW P pf rf N0 c Q e S := Fx _ _
theorem Ta (c : CC) (X : Prop) : C8 false X (LJ P pf rf N0 c Q e S) = AW P pf rf N0 c Q e S := FU _ _
theorem S9 (op : Op) (Y : Prop) : C8 true (Qg P pf rf op e S K) Y = AR P pf rf op e S K := Fx _ _
theorem Tb (l : List AO) (K : Af → Ae → Prop) (X : Prop) : C8 false X (Qe P pf rf l e S K) = Bi P pf rf l e S K := FU _ _
theorem Wy (d : Option Nat) (rest : List AO) (K : Af → Ae → Prop) (v : AV) : FJ P pf rf d rest e K v S = Bi P pf rf rest (put e d v) S K := rfl
theorem WN (x : Operand) : AR P pf rf (.move x) e S K = K (ev e x) S := rfl
theorem W9 (x : Operand) : AR P pf rf (.assign x) e S K = K (ev e x) S := rfl
theorem WU (t : TypeId) (x : Operand) : AR P pf rf (.load t x) e S K = De (DW (Az P t) S (ev e x)) K S := rfl
theorem WH (t : TypeId) (x y : Operand) : AR P pf rf (.store t x y) e S K = Nu (Hu (Az P t) S (ev e x) (ev e y)) K := rfl
theorem W7 (t : TypeId) (x : Operand) : AR P pf rf (.box t x) e S K = Vu (if (ev e x).solid = true then some (ev e x).cells else none) K S := rfl
theorem Xb (t : TypeId) : AR P pf rf (.alloc t) e S K = Vl (Bj P t) t K S := rfl
theorem WV (t : TypeId) (n : Nat) (parts : Array (Nat × Operand)) : AR P pf rf (.buildSlice t n parts) e S K = De (IP P t n (parts.toList.map fun p => (p.1, ev e p.2))) K S := rfl
theorem WS (t : TypeId) (x y : Operand) : AR P pf rf (.makeSlice t x y) e S K = JG (KP (HH P t (ev e x) (ev e y) S) (HG P t (ev e x) (ev e y) S)) K := rfl
theorem WO (t : TypeId) (r : Option Operand) : AR P pf rf (.makeMap t r) e S K = Vs (MB ((r.isNone || (DN P t).isSome) && IN (r.map (ev e)))) K S := rfl
theorem WX (t : TypeId) (m k v : Operand) : AR P pf rf (.insert t m k v) e S K = Nu (F5 (DN P t) S (ev e m) (ev e k) (ev e v)) K := rfl
theorem WR (t : TypeId) (m k v : Operand) : AR P pf rf (.mapUpdate t m k v) e S K = Nu (F5 (DN P t) S (ev e m) (ev e k) (ev e v)) K := rfl
theorem WT (t : TypeId) (x k : Operand) (b : Bool) : AR P pf rf (.lookup t x k b) e S K = De (FF (DN P t) S (ev e x) (ev e k) b) K S := rfl
theorem WJ (t : TypeId) (x : Operand) : AR P pf rf (.range t x) e S K = JG (HA (AQ P t) S (ev e x)) K := rfl
theorem WM (x : Operand) (b : Bool) : AR P pf rf (.next x b) e S K = JG (HF S (ev e x) b) K := rfl
theorem V4 (cs : List AV) : Bs cs 0 [] = cs := by simp [Bs]
theorem V1 (c u : AV) (cs us : List AV) : Bs (c :: cs) 0 (u :: us) = u :: Bs cs 0 us := by simp [Bs, Nat.add_comm]
theorem V2 (c : AV) (cs us : List AV) (n : Nat) : Bs (c :: cs) (n + 1) us = c :: Bs cs n us := by simp [Bs, Nat.succ_add]
theorem ZeJ {α : Type} (f : α → AV) (l : List α) (i : Nat) (x : α) (h : i < l.length) : Bs (l.map f) i [f x] = (l.set i x).map f := by
 simp only [Bs, List.length_cons, List.length_nil];rw [List.set_eq_take_append_cons_drop, if_pos h];simp
theorem V3 (l : List (List UInt8)) (i : Nat) (x : List UInt8) (h : i < l.length) : Bs (l.map .st) i [.st x] = (l.set i x).map .st := ZeJ .st l i x h
theorem W5 (s d : TypeId) (x : Operand) : AR P pf rf (.convert s d x) e S K = IF (AQ P d) (fun _ => JG (IS P s d (ev e x) S) K) (fun _ => De (GG P s d (ev e x)) K S) := by
 show (match AQ P d with | .bytes => _ | _ => _) = _
 unfold IF;split <;> rfl
theorem W0 (f : FuncId) (args : Array Operand) (ts : Array TypeId) : AR P pf rf (.call { callee := .value (.func f), args := args, argTypes := ts }) e S K = Du (Fh P pf rf f (args.toList.map (ev e)) S) K := by
 show Du (Fh P pf rf f ([] ++ args.toList.map (ev e) ++ []) S) K = _
 rw [List.nil_append, List.append_nil]
theorem WG (t : Nat) (args : Array Operand) (ts : Array TypeId) : AR P pf rf (.call { callee := .value (.tmp t), args := args, argTypes := ts }) e S K = Jz P pf rf t (e t) (args.toList.map (ev e)) S K := by
 unfold AR Jz;rfl
theorem Xa (x y : Operand) (t u : TypeId) : AR P pf rf (.call { callee := .builtin .append, args := #[x, y], argTypes := #[t, u] }) e S K = JG (FH P t u S (ev e x) (ev e y)) K := rfl
theorem WW (args : Array Operand) (ts : Array TypeId) : AR P pf rf (.call { callee := .builtin .len, args := args, argTypes := ts }) e S K = De (FG P .len ts (args.toList.map (ev e))) K S := rfl
theorem WP (args : Array Operand) (ts : Array TypeId) : AR P pf rf (.call { callee := .builtin .min, args := args, argTypes := ts }) e S K = De (FG P .min ts (args.toList.map (ev e))) K S := rfl
theorem WQ (args : Array Operand) (ts : Array TypeId) : AR P pf rf (.call { callee := .builtin .max, args := args, argTypes := ts }) e S K = De (FG P .max ts (args.toList.map (ev e))) K S := rfl
theorem WK (c x y : Operand) : AR P pf rf (.pick c x y) e S K = RX (ev e c) (ev e x) (ev e y) K S := rfl
theorem WL (x : Operand) : AR P pf rf (.nilCheck x) e S K = De (HE (ev e x)) K S := rfl
theorem W8 (op : BinOp) (t t' : TypeId) (x y : Operand) : AR P pf rf (.binOp op t x y t') e S K = De (Ff P op t e x y) K S := rfl
theorem V5 (op : BinOp) (t : TypeId) (x : Operand) (y : Nat) : Ff P op t e x (.tmp y) = DX P op t (ev e x) (e y) := rfl
theorem Wb (op : BinOp) (t : TypeId) (x : Operand) (k : IntKind) (n : Int) : Ff P op t e x (.const (.int k n)) = DX P op t (ev e x) (.it k n) := rfl
theorem V6 (op : BinOp) (t : TypeId) (x : Operand) (a : Array UInt8) : Ff P op t e x (.const (.string ⟨a⟩)) = DX P op t (ev e x) (.st a.toList) := rfl
theorem Wc (op : BinOp) (t : TypeId) (x : Operand) (b : Bool) : Ff P op t e x (.const (.bool b)) = DX P op t (ev e x) (.bo b) := rfl
theorem Wd (op : BinOp) (t : TypeId) (x : Operand) (a : Array Value) : Ff P op t e x (.const (.agg a)) = DX P op t (ev e x) (ev e (.const (.agg a))) := rfl
theorem V7 (op : BinOp) (t : TypeId) (x : Operand) (a : Option Addr) : Ff P op t e x (.const (.pointer a)) = DX P op t (ev e x) (ev e (.const (.pointer a))) := rfl
theorem Wa (op : BinOp) (t : TypeId) (x : Operand) (a : Option Nat) : Ff P op t e x (.const (.map a)) = DX P op t (ev e x) (ev e (.const (.map a))) := rfl
theorem V9 (op : BinOp) (t : TypeId) (x : Operand) : Ff P op t e x (.const .nilFunc) = DX P op t (ev e x) (ev e (.const .nilFunc)) := rfl
theorem V8 (op : BinOp) (t : TypeId) (x : Operand) (n c : Nat) : Ff P op t e x (.const (.slice none n c)) = if (Bk P t).isSome = true then HD op (ev e x) else none := rfl
theorem WE (op : UnOp) (t : TypeId) (x : Operand) : AR P pf rf (.unOp op t x) e S K = De (Ht op (ev e x)) K S := rfl
theorem W1 (f : Fn) (a b : Array Operand) : AR P pf rf (.makeFunc f a b) e S K = K (.fn f (a.toList.map (ev e)) (b.toList.map (ev e))) S := rfl
theorem WI (t : TypeId) (x : Operand) (lo hi mx : Option Operand) : AR P pf rf (.slice t x lo hi mx) e S K = De (Hz P t (ev e x) (lo.map (ev e)) (hi.map (ev e)) (mx.map (ev e))) K S := rfl
theorem W2 (t : TypeId) (x : Operand) (f : Nat) : AR P pf rf (.fieldAddr t x f) e S K = De (HL (Al P t f) (ev e x)) K S := rfl
theorem W3 (t : TypeId) (x : Operand) (f : Nat) : AR P pf rf (.field t x f) e S K = De (HM (Al P t f) (ev e x)) K S := rfl
theorem WY (t : TypeId) (x i : Operand) : AR P pf rf (.indexAddr t x i) e S K = De (HJ P t (ev e x) (ev e i)) K S := rfl
theorem WZ (t : TypeId) (x i : Operand) : AR P pf rf (.index t x i) e S K = De (HK P t (ev e x) (ev e i)) K S := rfl
theorem W4 (t : Operand) (i : Nat) : AR P pf rf (.extract t i) e S K = De (EO P e (.extract t i)) K S := rfl
theorem W6 (t : TypeId) (parts : Array (Nat × Operand)) : AR P pf rf (.build t parts) e S K = De (EO P e (.build t parts)) K S := rfl
theorem RY (b : Bool) (x y : AV) (K : AV → Prop) : Z9 (.bo b) x y K = K (if b then x else y) := rfl
theorem T6 (t : Nat) : ev e (.tmp t) = e t := rfl
theorem T9 (v : Value) : ev e (.const v) = Eb v := rfl
theorem T7 (g : Nat) : ev e (.global g) = .ot (.pointer (some ⟨g, 0, none⟩)) := rfl
theorem T8 (f : FuncId) : ev e (.func f) = .fn (.func f) [] [] := rfl
theorem Mx (d : Nat) (v : AV) : put e (some d) v = CU e d v := rfl
theorem RM (v : AV) : put e none v = e := rfl
theorem H4 (d t : Nat) (v : AV) : CU e d v t = if t = d then v else e t := rfl
theorem Ny (a : AV) (l : List AV) : Ex (a :: l) 0 = a := rfl
theorem Nz (a : AV) (l : List AV) (n : Nat) : Ex (a :: l) (n + 1) = Ex l n := rfl
theorem UQ (b : Bool) : Eb (.bool b) = .bo b := rfl
theorem UO (k : IntKind) (n : Int) : Eb (.int k n) = .it k n := rfl
theorem UK (a : Array UInt8) : Eb (.string ⟨a⟩) = .st a.toList := rfl
theorem UM : Eb (.slice none 0 0) = .sl .full [] := rfl
theorem UL : Eb (.pointer none) = .ot (.pointer none) := rfl
theorem UP : Eb .nilFunc = .ot .nilFunc := rfl
theorem UN : Eb (.map none) = .ot (.map none) := rfl
theorem UR (arr : Array Value) : Eb (.agg arr) = if arr.toList.all (·.oneCell') then .agg (arr.toList.map CQ) else .junk := rfl
end
theorem BZ {P : Program} {pf rf : List FuncId} {e : Af} {C : AV → Ae → Prop} {d : Option Nat} {rest : List AO} {K : Af → Ae → Prop} {v : AV} {S' : Ae} (h : C v S') (h' : Bi P pf rf rest (put e d v) S' K) : Du C (FJ P pf rf d rest e K) := ⟨v, S', h, h'⟩
theorem Bu {P : Program} {pf rf : List FuncId} {e : Af} {f : FuncId} {args args' : List AV} {S : Ae} {d : Option Nat} {rest : List AO} {K : Af → Ae → Prop} {v : AV} (h : AC P f args' [] v []) (ha : args.map AV.wk = args') (hk : args'.all (AV.ok 0) = true) (hv : v.ok 0 = true)
  (h' : Bi P pf rf rest (put e d v) S K) : Du (JM P f args S) (FJ P pf rf d rest e K) := by
 subst ha;exact ⟨v, S, ⟨h, hk, hv, rfl⟩, h'⟩
theorem Ay.refl (N0 : Nat) (e : Af) (S : Ae) : Ay N0 e S e S := fun _ _ _ _ _ _ h => h
theorem Ay.trans {N0 : Nat} {e e' e'' : Af} {S S' S'' : Ae} (h : Ay N0 e S e' S') (h' : Ay N0 e' S' e'' S'') : Ay N0 e S e'' S'' := fun N w0 g0 a w hn hc => h' N w0 g0 a w hn (h N w0 g0 a w hn hc)
theorem Rel.own_full {w : World} {g : Gh} {es : List AV} {cv : Value} {l : Nat} (h : Rel w g (.sl .full es) cv) (hl : l < g.nid) (hb : g.buf l = true) (hwm : g.wm l = es.length) : Rel w g (.sl (.own l) es) cv := by
 cases h with
 | sl _ _ _ A c sz cu hc hcm hsz hA h1 hr hm => exact .sl _ _ es A c sz cu hc hcm hsz hA h1 hr ⟨hl, hb, by omega, .inr (.inl hm)⟩
theorem Ay.reserve (N0 : Nat) {e : Af} {S : Ae} (d : Nat) {es : List AV} (hd : e d = .sl .full es) (ty : TypeId) (sz : Nat) : Ay N0 e S (CU e d (.sl (.own S.length) es)) (S ++ [.buf es.length ty sz]) := by
 rintro N w0 g0 a w hn ⟨h1, h2, g, h3, h4, h5⟩
 obtain ⟨g', h6, h7, h8, h9, h10⟩ := h3.reserve es.length ty sz;refine ⟨h1, h2, g', h6, fun t => ?_, h5.trans h7⟩
 have ht := (h4 t).le h7.toLe;by_cases htd : t = d
 ·subst htd
  rw [I1];rw [hd] at ht;refine ht.own_full ?_ ?_ ?_
  ·rw [h8, ← h3.nid]; omega
  ·rw [← h3.nid]; exact h9
  ·rw [← h3.nid]; exact h10
 ·rw [GJ e htd]; exact ht
section
variable {P : Program}
theorem QT (S : Ae) : SubOk [] S [] := ⟨List.nodup_nil, rfl, fun i o hi => by simp at hi⟩
theorem TW {rs : List ResultVar} {v : AV} {e : Af} {S : Ae} {vs : List AV} (h : Cg P rs e S = some vs) (hk : v.ok 0 = true) (hv : Cu vs = v ∨ (Cu vs).wk = v) : Fin P rs 0 v [] e S := by
 refine ⟨e, S, vs, [], Ay.refl 0 e S, h, QT S, rfl, hk, ?_⟩
 rw [D4 hk (fun i hi => absurd hi (Nat.not_lt_zero _))]
 exact hv
theorem F0 {rs : List ResultVar} {v : AV} {e : Af} {S : Ae} {vs : List AV} (h : Cg P rs e S = some vs) (hk : v.ok 0 = true) (hv : Cu vs = v) : CO P rs 0 v [] .ret e S := TW h hk (.inl hv)
theorem Nb {rs : List ResultVar} {v : AV} {e : Af} {S : Ae} {vs : List AV} (h : Cg P rs e S = some vs) (hk : v.ok 0 = true) (hv : (Cu vs).wk = v) : CO P rs 0 v [] .ret e S := TW h hk (.inr hv)
theorem Lq {rs : List ResultVar} {v : AV} {e : Af} {S S' : Ae} {vs : List AV} {N0 : Nat} (κ : List Nat) (h : Cg P rs e S = some vs) (hs : SubOk κ S S') (hn : κ.take N0 = List.range N0) (hk : v.ok κ.length = true) (hv : Cu vs = v.ren (AA κ)) : CO P rs N0 v S' .ret e S :=
 ⟨e, S, vs, κ, Ay.refl N0 e S, h, hs, hn, hk, .inl hv⟩
theorem Na {rs : List ResultVar} {v : AV} {e : Af} {S S' : Ae} {vs : List AV} {N0 : Nat} (e1 : Af) (S1 : Ae) (hw : Ay N0 e S e1 S1) (κ : List Nat) (h : Cg P rs e1 S1 = some vs) (hs : SubOk κ S1 S') (hn : κ.take N0 = List.range N0) (hk : v.ok κ.length = true) (hv : Cu vs = v.ren (AA κ)) : CO P rs N0 v S' .ret e S :=
 ⟨e1, S1, vs, κ, hw, h, hs, hn, hk, .inl hv⟩
theorem I4 (k k' : Nat) {S : Ae} {o o' : SObj} (hne : k ≠ k') (ho : o.ok 2 = true) (ho' : o'.ok 2 = true) (h : S[k]? = some (o.ren (AA [k, k']))) (h' : S[k']? = some (o'.ren (AA [k, k']))) : SubOk [k, k'] S [o, o'] := ⟨by simp [hne], rfl, fun i o1 hi => by
  match i, hi with
  | 0, hi => cases hi; exact ⟨ho, h⟩
  | 1, hi => cases hi; exact ⟨ho', h'⟩⟩
theorem I5 (k : Nat) {S : Ae} {o : SObj} (ho : o.ok 1 = true) (h : S[k]? = some (o.ren (AA [k]))) : SubOk [k] S [o] := ⟨by simp, rfl, fun i o1 hi => by
  cases i with
  | zero => cases hi; exact ⟨ho, h⟩
  | succ i => simp at hi⟩
end
theorem AC.at1 {P : Program} {f : FuncId} {args : List AV} {v : AV} {o o' : SObj} {T : Ae} (h : AC P f args [o] v [o']) (l : Nat) (hl : T[l]? = some (o.ren (AA [l]))) (ha : args.all (AV.ok 1) = true) (hv : v.ok 1 = true) (ho : o.ok 1 = true) (ho' : o'.ok 1 = true) :
  AC P f (args.map (AV.ren (AA [l]))) T (v.ren (ext [l] T.length)) (T.set l (o'.ren (ext [l] T.length))) := by
 have := h.frame (T := T) [l] ⟨by simp, rfl, fun i o1 hi => by
  cases i with
  | zero => cases hi; exact ⟨ho, hl⟩
  | succ i => simp at hi⟩ ha hv (fun i o1 hi => by
  cases i with
  | zero => cases hi; exact ho'
  | succ i => simp at hi)
 simpa [after, Em] using this
theorem AF {N0 : Nat} {B : (AX → Af → Ae → Prop) → Af → Ae → Prop} {Q : AX → Af → Ae → Prop} {e : Af} {S : Ae} (I : Nat → Af → Ae → Prop) (n : Nat) (h0 : I n e S)
  (h : ∀ n e S, I n e S → B (Cb Q (Jj N0 I n)) e S) : HQ N0 B Q e S := ⟨I, ⟨n, e, S, Ay.refl N0 e S, h0⟩, h⟩
theorem C2 {N0 : Nat} {B : (AX → Af → Ae → Prop) → Af → Ae → Prop} {Q : AX → Af → Ae → Prop} {e : Af} {S : Ae} (I : Nat → Af → Ae → Prop) (n : Nat) (e' : Af) (S' : Ae) (hw : Ay N0 e S e' S') (h0 : I n e' S')
  (h : ∀ n e S, I n e S → B (Cb Q (Jj N0 I n)) e S) : HQ N0 B Q e S := ⟨I, ⟨n, e', S', hw, h0⟩, h⟩
theorem Ao {N0 : Nat} {I : Nat → Af → Ae → Prop} {n : Nat} {e : Af} {S : Ae} (n' : Nat) (hn : n' < n) (h : I n' e S) : Jj N0 I n e S := ⟨n', e, S, hn, Ay.refl N0 e S, h⟩
theorem S6 {α : Type} {c : Prop} [Decidable c] (x : α) (h : c) : (if c then some x else none) = some x := if_pos h
theorem TS {n b : Nat} (h : n * b ≤ 140737488355328) (h' : n ≤ 140737488355328) : CN n b = true := by simp [CN, h, h']
theorem dT {p : Prop} [Decidable p] (h : p) : decide p = true := decide_eq_true h
theorem dF {p : Prop} [Decidable p] (h : ¬ p) : decide p = false := decide_eq_false h
theorem Vx {a b : Int} (h : a = b) : (a == b) = true := by simp [h]
theorem FB {a b : Int} (h : a ≠ b) : (a == b) = false := by simp [h]
theorem B6 {a b : Int} (h : a ≠ b) : (a != b) = true := by simp [h]
theorem B7 {a b : Int} (h : a = b) : (a != b) = false := by simp [h]
theorem Vv (b : Bool) : (b == true) = b := by cases b <;> rfl
theorem Vw (b : Bool) : (b == false) = !b := by cases b <;> rfl
theorem Bh {α : Type} (sz : Nat) (f : α → AV) (h : ∀ a, (f a).cells.length = sz) (l : List α) : Ax sz (l.map f) = true := by
 simp [Ax, h]
theorem VR (l : List (List UInt8)) : Ax 1 (l.map .st) = true := Bh 1 _ (fun _ => rfl) l
theorem VQ (l : List UInt8) : Ax 1 (l.map u8) = true := Bh 1 _ (fun _ => rfl) l
theorem VU (sz : Nat) (l r : List AV) : Ax sz (l ++ r) = (Ax sz l && Ax sz r) := by simp [Ax]
theorem VT (sz : Nat) (v : AV) (l : List AV) : Ax sz (v :: l) = (v.cells.length == sz && Ax sz l) := rfl
theorem VS (sz : Nat) : Ax sz [] = true := rfl
theorem wrap64 {n : Int} (h : -9223372036854775808 ≤ n) (h' : n ≤ 9223372036854775807) : IntKind.i64.wrap n = n := by rw [IntKind.wrap_i64]; omega
end Pe
namespace Pe
open Go Go.RowKit
variable [Tab]
theorem AC.ofBelow {P : Program} {f : FuncId} {args : List AV} {v : AV} (hcan : Lw P f = true)
  (h : ∀ (w : World) (g : Gh) (cargs : Array Value), JL w g → Fg w g args cargs → Calls P f cargs w fun r w' => ∃ cv, r = .returned cv ∧ (∀ g', Rel w' g' v cv) ∧ Below w.heap.size w w') : AC P f args [] v [] := by
 refine ⟨hcan, fun w g cargs hw hargs => ?_⟩
 refine (h w g cargs hw.tab hargs).mono ?_
 rintro r w' ⟨cv, rfl, h1, h2⟩
 exact ⟨cv, g, rfl, hw.below h2, h1 g, Evo.below g h2⟩
theorem ZaU {w : World} {g : Gh} {v : AV} {cargs : Array Value} (h : Fg w g [v] cargs) : ∃ cv, cargs = #[cv] ∧ Rel w g v cv := by
 obtain ⟨h1, h2⟩ := h;have h0 : 0 < cargs.size := by rw [h1]; simp
 refine ⟨cargs[0], ?_, h2 0 v _ rfl (Array.getElem?_eq_getElem h0)⟩
 apply Array.ext
 ·simpa using h1
 ·intro i hi hi'
  have : i = 0 := by simp at h1; omega
  subst this;rfl
theorem KX {w : World} {g : Gh} {l : List UInt8} {cargs : Array Value} (h : Fg w g [.st l] cargs) : cargs = #[.string ⟨l.toArray⟩] := by
 obtain ⟨cv, rfl, hr⟩ := ZaU h;cases hr
 rfl
end Pe
namespace Pe
open Go
set_option maxRecDepth 100000
theorem LM :
  (type_of% @Wo) ∧
  (type_of% @Wq) ∧
  (type_of% @LK) ∧
  (type_of% @Ww) ∧
  (type_of% @Wx) ∧
  (type_of% @Wt) ∧
  (type_of% @Wu) ∧
  (type_of% @Wp) ∧
  (type_of% @QO) ∧
  (type_of% @QN) ∧
  (type_of% @QP) ∧
  (type_of% @Vh) ∧
  (type_of% @Vg) ∧
  (type_of% @Vf) ∧
  (type_of% @Vi) ∧
  (type_of% @WA) ∧
  (type_of% @WC) ∧
  (type_of% @Wy) ∧
  (type_of% @WB) ∧
  (type_of% @WN) ∧
  (type_of% @W9) ∧
  (type_of% @WU) ∧
  (type_of% @WH) ∧
  (type_of% @W7) ∧
  (type_of% @Xb) ∧
  (type_of% @WV) ∧
  (type_of% @WS) ∧
  (type_of% @W0) ∧
  (type_of% @WG) ∧
  (type_of% @Xa) ∧
  (type_of% @WW) ∧
  (type_of% @WP) ∧
  (type_of% @WQ) ∧
  (type_of% @WK) ∧
  (type_of% @WL) ∧
  (type_of% @W8) ∧
  (type_of% @V5) ∧
  (type_of% @Wb) ∧
  (type_of% @V6) ∧
  (type_of% @Wc) ∧
  (type_of% @Wd) ∧
  (type_of% @V7) ∧
  (type_of% @Wa) ∧
  (type_of% @V9) ∧
  (type_of% @V8) ∧
  (type_of% @WE) ∧
  (type_of% @W1) ∧
  (type_of% @WI) ∧
  (type_of% @W2) ∧
  (type_of% @W3) ∧
  (type_of% @WY) ∧
  (type_of% @WZ) ∧
  (type_of% @W4) ∧
  (type_of% @W6) ∧
  (type_of% @W5) ∧
  (type_of% @WO) ∧
  (type_of% @WX) ∧
  (type_of% @WR) ∧
  (type_of% @WT) ∧
  (type_of% @WJ) ∧
  (type_of% @WM) ∧
  (type_of% @T6) ∧
  (type_of% @T9) ∧
  (type_of% @T7) ∧
  (type_of% @T8) ∧
  (type_of% @Mx) ∧
  (type_of% @RM) ∧
  (type_of% @H4) ∧
  (type_of% @Ny) ∧
  (type_of% @Nz) ∧
  (type_of% @UQ) ∧
  (type_of% @UO) ∧
  (type_of% @UK) ∧
  (type_of% @UM) ∧
  (type_of% @UL) ∧
  (type_of% @UP) ∧
  (type_of% @UN) :=
 ⟨@Wo, @Wq, @LK, @Ww, @Wx, @Wt, @Wu, @Wp, @QO, @QN, @QP, @Vh, @Vg, @Vf, @Vi, @WA, @WC, @Wy, @WB, @WN, @W9, @WU, @WH, @W7, @Xb, @WV, @WS, @W0, @WG, @Xa, @WW, @WP, @WQ, @WK, @WL, @W8, @V5, @Wb, @V6, @Wc, @Wd, @V7, @Wa, @V9, @V8, @WE, @W1, @WI, @W2, @W3, @WY, @WZ, @W4, @W6, @W5, @WO, @WX, @WR, @WT, @WJ, @WM, @T6, @T9, @T7, @T8, @Mx, @RM, @H4, @Ny, @Nz, @UQ, @UO, @UK, @UM, @UL, @UP, @UN⟩
theorem LN :
  (type_of% @UX) ∧
  (type_of% @UW) ∧
  (type_of% @UV) ∧
  (type_of% @UR) ∧
  (type_of% @Vp) ∧
  (type_of% @List.take_length.{0}) ∧
  (type_of% @V3) ∧
  (type_of% @V2) ∧
  (type_of% @V1) ∧
  (type_of% @V4) ∧
  (type_of% @SA) ∧
  (type_of% @false_and) ∧
  (type_of% @R7) ∧
  (type_of% @R1) ∧
  (type_of% @R0) ∧
  (type_of% @Vq) ∧
  (type_of% @Vm) ∧
  (type_of% @Vn) ∧
  (type_of% @Vt) ∧
  (type_of% @Vk) ∧
  (type_of% @Vo) ∧
  (type_of% @Vr) ∧
  (type_of% @Tn) ∧
  (type_of% @RW) ∧
  (type_of% @wrap64) ∧
  (type_of% @S6) ∧
  (type_of% @TS) ∧
  (type_of% @Vv) ∧
  (type_of% @Vw) ∧
  (type_of% @dT) ∧
  (type_of% @dF) ∧
  (type_of% @Vx) ∧
  (type_of% @FB) ∧
  (type_of% @B6) ∧
  (type_of% @B7) ∧
  (type_of% @S7) ∧
  (type_of% @Ta) ∧
  (type_of% @S9) ∧
  (type_of% @Tb) ∧
  (type_of% @UY) ∧
  (type_of% @TK) ∧
  (type_of% @TJ) ∧
  (type_of% @RY) ∧
  (type_of% @Bool.or_true) ∧
  (type_of% @Bool.true_or) ∧
  (type_of% @Bool.or_false) ∧
  (type_of% @Bool.false_or) ∧
  (type_of% @decide_true) ∧
  (type_of% @decide_false) ∧
  (type_of% @Bool.not_true) ∧
  (type_of% @Bool.not_false) ∧
  (type_of% @Bool.true_and) ∧
  (type_of% @Bool.and_true) ∧
  (type_of% @Bool.false_and) ∧
  (type_of% @Bool.and_false) ∧
  (type_of% @beq_self_eq_true.{0}) ∧
  (type_of% @List.map_cons.{0, 0}) ∧
  (type_of% @List.map_nil.{0, 0}) ∧
  (type_of% @List.nil_append.{0}) ∧
  (type_of% @List.append_nil.{0}) ∧
  (type_of% @List.cons_append.{0}) ∧
  (type_of% @List.length_nil.{0}) ∧
  (type_of% @List.length_cons.{0}) ∧
  (type_of% @List.length_map.{0, 0}) ∧
  (type_of% @List.length_append.{0}) ∧
  (type_of% @List.getElem?_cons_zero.{0}) ∧
  (type_of% @List.getElem?_cons_succ.{0}) ∧
  (type_of% @List.getElem?_nil.{0}) ∧
  (type_of% @List.getElem?_toArray.{0}) ∧
  (type_of% @List.set_cons_zero.{0}) ∧
  (type_of% @List.set_cons_succ.{0}) ∧
  (type_of% @List.contains_cons.{0}) ∧
  (type_of% @List.contains_nil.{0}) ∧
  (type_of% @List.elem_nil.{0}) ∧
  (type_of% @VR) ∧
  (type_of% @VQ) ∧
  (type_of% @VU) ∧
  (type_of% @VT) ∧
  (type_of% @VS) ∧
  (type_of% @List.getElem?_map.{0, 0}) ∧
  (type_of% @JE) ∧
  (type_of% @List.range'_succ) ∧
  (type_of% @List.range'_zero) ∧
  (type_of% @List.cons.injEq.{0}) ∧
  (type_of% @List.take_succ_cons.{0}) ∧
  (type_of% @List.take_zero.{0}) ∧
  (type_of% @List.drop_succ_cons.{0}) ∧
  (type_of% @List.drop_zero.{0}) ∧
  (type_of% @List.take_nil.{0}) ∧
  (type_of% @List.drop_nil.{0}) ∧
  (type_of% @Option.map_some.{0, 0}) ∧
  (type_of% @Option.map_none.{0, 0}) ∧
  (type_of% @Option.isSome_some.{0}) ∧
  (type_of% @Option.isNone_none.{0}) ∧
  (type_of% @Option.all_some.{0}) ∧
  (type_of% @and_self) ∧
  (type_of% @and_true) ∧
  (type_of% @true_and) ∧
  (type_of% @ne_eq.{0}) ∧
  (type_of% @not_true_eq_false) ∧
  (type_of% @not_false_eq_true) ∧
  (type_of% @Bool.false_eq_true) ∧
  (type_of% @Nat.zero_add) ∧
  (type_of% @Nat.add_zero) ∧
  (type_of% @Int.toNat_natCast) ∧
  (type_of% @Nat.zero_le) ∧
  (type_of% @Nat.le_refl) ∧
  (type_of% @List.all_cons.{0}) ∧
  (type_of% @List.all_nil.{0}) ∧
  (type_of% @Nat.not_lt_zero) ∧
  (type_of% @true_implies) ∧
  (type_of% @forall_const.{0}) :=
 ⟨@UX, @UW, @UV, @UR, @Vp, @List.take_length, @V3, @V2, @V1, @V4, @SA, @false_and, @R7, @R1, @R0, @Vq, @Vm, @Vn, @Vt, @Vk, @Vo, @Vr, @Tn, @RW, @wrap64, @S6, @TS, @Vv, @Vw, @dT, @dF, @Vx, @FB, @B6, @B7, @S7, @Ta, @S9, @Tb, @UY, @TK, @TJ, @RY, @Bool.or_true, @Bool.true_or, @Bool.or_false, @Bool.false_or, @decide_true, @decide_false, @Bool.not_true, @Bool.not_false, @Bool.true_and, @Bool.and_true, @Bool.false_and, @Bool.and_false, @beq_self_eq_true, @List.map_cons, @List.map_nil, @List.nil_append, @List.append_nil, @List.cons_append, @List.length_nil, @List.length_cons, @List.length_map, @List.length_append, @List.getElem?_cons_zero, @List.getElem?_cons_succ, @List.getElem?_nil, @List.getElem?_toArray, @List.set_cons_zero, @List.set_cons_succ, @List.contains_cons, @List.contains_nil, @List.elem_nil, @VR, @VQ, @VU, @VT, @VS, @List.getElem?_map, @JE, @List.range'_succ, @List.range'_zero, @List.cons.injEq, @List.take_succ_cons, @List.take_zero, @List.drop_succ_cons, @List.drop_zero, @List.take_nil, @List.drop_nil, @Option.map_some, @Option.map_none, @Option.isSome_some, @Option.isNone_none, @Option.all_some, @and_self, @and_true, @true_and, @ne_eq, @not_true_eq_false, @not_false_eq_true, @Bool.false_eq_true, @Nat.zero_add, @Nat.add_zero, @Int.toNat_natCast, @Nat.zero_le, @Nat.le_refl, @List.all_cons, @List.all_nil, @Nat.not_lt_zero, @true_implies, @forall_const⟩
end Pe
end
section
namespace Pe
open Go Go.RowKit Go.WideShapes Go.ChangeShapes
def Ok (W : World) (b : Nat) : Nat :=
 match W.heap[b]? with
 | some (.cells cs _ _) => cs.size
 | _ => 0
def g0 (W : World) : Gh := ⟨Ok W, fun _ => 0, fun _ _ => False, 0, fun _ => false, fun _ => 0, fun _ => 0⟩
theorem SI {W : World} {b o : Nat} {v : Value} (h : W.cell? ⟨b, o, none⟩ = some v) : o < Ok W b := by
 unfold World.cell? at h;unfold Ok;cases hb : W.heap[b]? with
 | none => simp [hb] at h
 | some ob =>
  cases ob with
  | cells cs t fr =>
   simp only [hb] at h ⊢;by_cases hlt : o < cs.size
   ·exact hlt
   ·have hn : cs[o]? = none := Array.getElem?_eq_none (by omega)
    simp [hn] at h
  | _ => simp [hb] at h
theorem XB [Tab] {W : World} (h : ∀ b i v, Tab.T b i = some v → W.cell? ⟨b, i, none⟩ = some v) : WF W (g0 W) [] :=
 ⟨rfl, fun l o hl => by simp at hl, fun l l' b hl => absurd hl (Nat.not_lt_zero _), fun l b hl => absurd hl (Nat.not_lt_zero _), fun b i v hv => ⟨SI (h b i v hv), h b i v hv⟩⟩
theorem Zcv {W W' : World} {g' : Gh} (h : Evo W (g0 W) W' g') : Below W.heap.size W W' :=
 ⟨h.os, h.tape, h.output, h.size, fun b hb => h.old b hb fun l hl => absurd hl (Nat.not_lt_zero _)⟩
theorem law_run [Tab] {P : Program} {f : FuncId} {args : List AV} {S' : Ae} {b : Bool} (h : AC P f args [] (.bo b) S') {W : World} (hT : ∀ b i v, Tab.T b i = some v → W.cell? ⟨b, i, none⟩ = some v) {cargs : Array Value} (ha : Fg W (g0 W) args cargs) :
  Calls P f cargs W fun e W' => e = .returned (.bool b) ∧ Below W.heap.size W W' :=
 (h.run W (g0 W) cargs (XB hT) ha).mono fun e W' ⟨cv, g', he, _, hr, hev⟩ => by
  cases hr
  exact ⟨he, Zcv hev⟩
theorem lrel0 {w : World} {g : Gh} : Fg w g [] #[] := ⟨rfl, fun j u v hu => by simp at hu⟩
theorem lrelL {w : World} {g : Gh} {us : List AV} {vs : List Value} {u : AV} {v : Value} (h : Rel w g u v) (hs : Fg w g us vs.toArray) : Fg w g (u :: us) (v :: vs).toArray := by
 refine ⟨by have := hs.1; simp at this; simp [this], fun j a b ha hb => ?_⟩
 cases j with
 | zero => simp at ha hb; subst ha hb; exact h
 | succ j => exact hs.2 j a b (by simpa using ha) (by simpa using hb)
theorem ZD (W : World) (g : Gh) (x : ByteArray) : Rel W g (.st x.data.toList) (.string x) := by
 have := Rel.st (w := W) g x.data.toList;rwa [show (⟨x.data.toList.toArray⟩ : ByteArray) = x from by rw [Array.toArray_toList]] at this
theorem ZF (W : World) (g : Gh) : Rel W g (.sl .ro []) (.slice none 0 0) :=
 .sl g .ro [] none 0 0 (fun _ => .bool false) (Nat.le_refl _) (Nat.zero_le _) (fun e he => by simp at he) (fun h => absurd h (by simp)) (fun j hj => by simp [Ak] at hj) (fun j u hu => by simp [Ak] at hu) trivial
end Pe
namespace Pe
open Go Go.RowKit Go.ChangeShapes
def Lt (P : Program) (t : TypeId) : List Field → Nat → Bool
 | [], o => o == P.cellsOf t
 | f :: r, o => f.offset == o && Lt P t r (o + P.cellsOf f.type)
def GC (P : Program) (t : TypeId) : Bool := match P.underlying t with
 | some (.struct _) => true
 | _ => false
def fo (P : Program) : Nat → TypeId → Bool
 | 0, _ => false
 | n + 1, t => match P.underlying t with
  | some .bool => P.cellsOf t == 1
  | some .string => P.cellsOf t == 1
  | some (.int _) => P.cellsOf t == 1
  | some (.slice e) => P.cellsOf t == 1 && decide (0 < P.cellsOf e) && decide (0 < P.bytesOf e) && fo P n e
  | some (.struct fs) => Lt P t fs.toList 0 && fs.toList.all fun f => fo P n f.type
  | _ => false
def el (ag : Bool) (us : List AV) : AV := if ag then .agg us else us.headD .junk
def Me (S : TypeId → List AV → Prop) : List Field → List AV → Prop
 | [], us => us = []
 | f :: r, us => ∃ a b, us = a ++ b ∧ S f.type a ∧ Me S r b
def Cj (P : Program) (B : Nat) : Nat → TypeId → List AV → Prop
 | 0, _, _ => False
 | n + 1, t, us => match P.underlying t with
  | some .bool => ∃ b, us = [.bo b]
  | some .string => ∃ l : List UInt8, us = [.st l] ∧ l.length ≤ B
  | some (.int k) => ∃ i, us = [.it k i] ∧ (Lit.int k i).wf = true
  | some (.slice e) => ∃ es : List (List AV), us = [.sl .ro (es.map (el (GC P e)))] ∧ (∀ x ∈ es, Cj P B n e x) ∧ es.length ≤ B
  | some (.struct fs) => Me (Cj P B n) fs.toList us
  | _ => False
section
variable {P : Program}
theorem Un {B n : Nat} {t : TypeId} {us : List AV} (h : Cj P B n t us) : (el (GC P t) us).cells = us := by
 cases n with
 | zero => cases h
 | succ n =>
  unfold Cj at h;unfold GC;split at h
  ·rename_i hu; rw [hu]; obtain ⟨b, rfl⟩ := h; rfl
  ·rename_i hu; rw [hu]; obtain ⟨b, rfl, _⟩ := h; rfl
  ·rename_i hu; rw [hu]; obtain ⟨b, rfl, _⟩ := h; rfl
  ·rename_i hu; rw [hu]; obtain ⟨b, rfl, _⟩ := h; rfl
  ·rename_i hu; rw [hu]; rfl
  ·cases h
theorem AB.nil (w : World) (g : Gh) : AB w g [] #[] := ⟨rfl, by simp, by simp⟩
theorem AB.one {w : World} {g : Gh} {u : AV} {v : Value} (h : Rel w g u v) (h1 : v.oneCell' = true) : AB w g [u] #[v] := by
 refine ⟨rfl, by simpa using h1, fun j x y hx hy => ?_⟩
 match j with
 | 0 => cases hx; cases hy; exact h
 | j + 1 => simp at hx
theorem AB.app {w : World} {g : Gh} {us us' : List AV} {vs vs' : List Value} (h : AB w g us vs.toArray) (h' : AB w g us' vs'.toArray) : AB w g (us ++ us') (vs ++ vs').toArray := by
 obtain ⟨a1, a2, a3⟩ := h;obtain ⟨b1, b2, b3⟩ := h';have a1 : vs.length = us.length := by simpa using a1
 have b1 : vs'.length = us'.length := by simpa using b1
 refine ⟨by simp [a1, b1], fun v hv => ?_, fun j x y hx hy => ?_⟩
 ·rcases List.mem_append.1 hv with hv | hv
  ·exact a2 v hv
  ·exact b2 v hv
 ·by_cases hj : j < us.length
  ·rw [List.getElem?_append_left hj] at hx
   have hy : vs[j]? = some y := by rw [← List.getElem?_append_left (l₂ := vs') (by omega)]; simpa using hy
   exact a3 j x y hx (by simpa using hy)
  ·rw [List.getElem?_append_right (by omega)] at hx
   have hy : vs'[j - us.length]? = some y := by
    have : (vs ++ vs')[j]? = some y := by simpa using hy
    rw [List.getElem?_append_right (by omega), a1] at this
    exact this
   exact b3 _ x y hx (by simpa using hy)
theorem Zcc (f : List AV → AV) (es : List (List AV)) (h : ∀ x ∈ es, (f x).cells = x) : Ak (es.map f) = es.flatten := by
 induction es with
 | nil => rfl
 | cons x es ih =>
  rw [List.map_cons, Ak, List.flatMap_cons, h x (by simp), List.flatten_cons]
  exact congrArg _ (ih fun y hy => h y (by simp [hy]))
theorem TM {α : Type} {sz : Nat} : ∀ {es : List (List α)} (_ : ∀ x ∈ es, x.length = sz) (j : Nat) (u : α), es.flatten[j]? = some u → ∃ i k x, es[i]? = some x ∧ x[k]? = some u ∧ k < sz ∧ j = i * sz + k
 | [], _, j, u, h => by simp at h
 | x :: es, hs, j, u, h => by
  have hx := hs x (by simp)
  rw [List.flatten_cons] at h;by_cases hj : j < x.length
  ·rw [List.getElem?_append_left hj] at h
   exact ⟨0, j, x, rfl, h, by omega, by omega⟩
  ·rw [List.getElem?_append_right (by omega)] at h
   obtain ⟨i, k, y, h1, h2, h3, h4⟩ := TM (fun y hy => hs y (by simp [hy])) _ u h
   exact ⟨i + 1, k, y, by simpa using h1, h2, h3, by rw [Nat.succ_mul]; omega⟩
theorem TL {α : Type} {sz : Nat} : ∀ {es : List (List α)} (_ : ∀ x ∈ es, x.length = sz), es.flatten.length = es.length * sz
 | [], _ => by simp
 | x :: es, hs => by
  rw [List.flatten_cons, List.length_append, TL (fun y hy => hs y (by simp [hy])), hs x (by simp), List.length_cons, Nat.succ_mul]; omega
theorem XC {H : Type} {e : TypeId} {l : List (DataW H)} {d : DataW H} {n : Nat} (hd : d ∈ l) (hn : n ∈ d.weights P e) : n ∈ DataW.weightsAll P e l := by
 induction l with
 | nil => cases hd
 | cons a l ih =>
  rw [DataW.weightsAll];rcases List.mem_cons.1 hd with rfl | hd
  ·exact List.mem_append_left _ hn
  ·exact List.mem_append_right _ (ih hd)
variable {H : Type} {enc : TypeId × Value → H} {W : World} {base : Nat} {spare : Nat → Bool} {held : Bool}
theorem Zaj (B : Nat) : ∀ (n fuel : Nat) (t : TypeId) (cs : List Value) (x : DataW H × List MemPlace), fo P n t = true → DataW.trod enc P W base spare held fuel t cs = some x → (∀ m ∈ x.1.weights P t, m ≤ B) →
  ∃ us, Cj P B n t us ∧ AB W (g0 W) us cs.toArray ∧ cs.length = P.cellsOf t := by
 intro n;induction n with
 | zero => intro fuel t cs x h; cases h
 | succ n ih =>
  intro fuel t cs x hf ht hwt;unfold fo at hf;unfold Cj;split at hf <;> rename_i hu
  ·obtain ⟨b, rfl, _⟩ := DataW.trod_bool hu ht
   exact ⟨[.bo b], ⟨b, rfl⟩, AB.one (.bo _ b) rfl, by simpa using Eq.symm (by simpa using hf)⟩
  ·obtain ⟨s, rfl, rfl, hs⟩ := DataW.trod_string hu ht
   exact ⟨[.st s.data.toList], ⟨_, rfl, by simpa [DataW.weights] using hwt s.data.toList.length (by simp [DataW.weights])⟩, AB.one (ZD W _ s) rfl, by simpa using Eq.symm (by simpa using hf)⟩
  ·obtain ⟨i, rfl, _, hi⟩ := DataW.trod_int hu ht
   exact ⟨[.it _ i], ⟨i, rfl, hi⟩, AB.one (.it _ _ i) rfl, by simpa using Eq.symm (by simpa using hf)⟩
  ·rename_i e
   simp only [Bool.and_eq_true, decide_eq_true_eq, beq_iff_eq] at hf;obtain ⟨⟨⟨hc, hpos⟩, hbp⟩, hfe⟩ := hf;rcases Go.Deep.open_slice hu ht with ⟨rfl, _⟩ | ⟨a, len, cap, m, k, D, Pl, rfl, _, hle, hmx, hm, rfl, hx⟩
   ·exact ⟨[.sl .ro []], ⟨[], rfl, by simp, Nat.zero_le _⟩, AB.one (ZF W _) rfl, by simpa using hc.symm⟩
   have hlm : len ≤ m := by rw [hm]; split <;> omega
   obtain ⟨U, hU⟩ := Go.Deep.choose_lt (α := List AV × List Value) (n := len) (p := fun i q => Cj P B n e q.1 ∧ AB W (g0 W) q.1 q.2.toArray ∧ q.2.length = P.cellsOf e ∧ W.cells? base (a.add (i * P.cellsOf e)) (P.cellsOf e) = some q.2) (fun i hi => by
    obtain ⟨cs', h1, h2⟩ := hx i (by omega)
    obtain ⟨us, h3, h4, h5⟩ := ih _ _ _ _ hfe h2 (fun y hy => hwt y (by
     simp only [DataW.weights, hu];exact List.mem_cons_of_mem _ (List.mem_append_left _ (XC (List.mem_map.2 ⟨i, by simpa using hi, rfl⟩) hy))))
    exact ⟨(us, cs'), h3, h4, h5, h1⟩)
   have hes : ∀ x ∈ (List.range len).map fun i => (U i).1, Cj P B n e x := fun x hx => by
    obtain ⟨i, hi, rfl⟩ := List.mem_map.1 hx;exact (hU i (by simpa using hi)).1
   have hsz : ∀ x ∈ (List.range len).map fun i => (U i).1, x.length = P.cellsOf e := fun x hx => by
    obtain ⟨i, hi, rfl⟩ := List.mem_map.1 hx;have h := hU i (by simpa using hi)
    have := h.2.1.1;rw [← this];simpa using h.2.2.1
   have hlB : len ≤ B := by
    have h := hwt ((((List.range len).map D).length + ((List.range (m - len)).map fun j => D (len + j)).length) * P.bytesOf e) (by simp only [DataW.weights, hu]; exact List.mem_cons_self ..)
    rw [List.length_map, List.length_range] at h;exact Nat.le_trans (Nat.le_trans (Nat.le_add_right _ _) (Nat.le_mul_of_pos_right _ hbp)) h
   refine ⟨_, ⟨(List.range len).map fun i => (U i).1, rfl, hes, by simpa using hlB⟩, AB.one ?_ rfl, by simpa using hc.symm⟩
   have hfl : Ak (((List.range len).map fun i => (U i).1).map (el (GC P e))) = ((List.range len).map fun i => (U i).1).flatten := Zcc _ _ fun x hx => Un (hes x hx)
   have hln : (((List.range len).map fun i => (U i).1).map (el (GC P e))).length = len := by simp
   have hcell : ∀ j u, ((List.range len).map fun i => (U i).1).flatten[j]? = some u → ∃ v, W.cell? (a.add j) = some v ∧ v.oneCell' = true ∧ Rel W (g0 W) u v := by
    intro j u hj;obtain ⟨i, k', x, h1, h2, h3, rfl⟩ := TM hsz j u hj;rw [List.getElem?_map] at h1
    by_cases hi : i < len
    ·rw [List.getElem?_range hi] at h1
     simp only [Option.map_some, Option.some.injEq] at h1;subst h1;obtain ⟨g1, g2, g3, g4⟩ := hU i hi;obtain ⟨_, c2, c3⟩ := World.cells?_some g4
     have hk : k' < (U i).2.length := by omega
     have c4 := c3 k' h3;rw [List.getElem?_eq_getElem hk] at c4
     refine ⟨(U i).2[k'], ?_, g2.2.1 _ (by simp), g2.2.2 k' u _ h2 (by simp [hk])⟩
     rw [← c4];congr 1
     generalize i * P.cellsOf e = y;unfold Addr.add;by_cases hy : y = 0 <;> by_cases hk : k' = 0 <;> simp [hy, hk, Nat.add_assoc]
    ·rw [List.getElem?_eq_none (by simp; omega)] at h1
     cases h1
   have hfln := TL hsz;rw [List.length_map, List.length_range] at hfln;have hget : ∀ j, j < ((List.range len).map fun i => (U i).1).flatten.length → ∃ u, ((List.range len).map fun i => (U i).1).flatten[j]? = some u := fun j hj => ⟨_, List.getElem?_eq_getElem hj⟩
   have h := Rel.sl (w := W) (g0 W) .ro (((List.range len).map fun i => (U i).1).map (el (GC P e))) (some a) cap (P.cellsOf e) (fun j => (W.cell? (a.add j)).getD default) (by rw [hln]; exact hle) hmx
    (fun x hx => by
     obtain ⟨y, hy, rfl⟩ := List.mem_map.1 hx;rw [Un (hes y hy), hsz y hy])
    (fun h0 => ?_) (fun j hj => ?_) (fun j u hu' => ?_) trivial
   ·rw [hln] at h; exact h
   ·rw [hln] at h0
    obtain ⟨b, off, spot⟩ := a;have hp0 : 0 < ((List.range len).map fun i => (U i).1).flatten.length := by rw [hfln]; exact Nat.mul_pos h0 hpos
    have hspot : spot = none := by
     obtain ⟨u, hu'⟩ := hget 0 hp0;obtain ⟨v, hv, _⟩ := hcell 0 u hu';simpa [Addr.add] using World.cell?_spot hv
    subst hspot;refine ⟨b, off, rfl, fun j hj => ?_⟩
    rw [hfl] at hj;obtain ⟨u, hu'⟩ := hget j hj;obtain ⟨v, hv, _⟩ := hcell j u hu';rw [Addr.add_lit] at hv;refine ⟨SI hv, ?_⟩
    show _ = some ((W.cell? (Addr.add ⟨b, off, none⟩ j)).getD default)
    rw [Addr.add_lit, hv]; rfl
   ·rw [hfl] at hj
    obtain ⟨u, hu'⟩ := hget j hj;obtain ⟨v, hv, h1, _⟩ := hcell j u hu';show ((W.cell? (a.add j)).getD default).oneCell' = true
    rw [hv]; exact h1
   ·rw [hfl] at hu'
    obtain ⟨v, hv, _, h2⟩ := hcell j u hu';show Rel W (g0 W) u ((W.cell? (a.add j)).getD default)
    rw [hv]; exact h2
  ·rename_i fs
   simp only [Bool.and_eq_true, List.all_eq_true] at hf;obtain ⟨xs, k, _, rfl, hl, hlen, hx⟩ := DataW.trod_struct hu ht;suffices H : ∀ (r : List Field) (o i : Nat), Lt P t r o = true → (∀ f ∈ r, fo P n f.type = true) → r = fs.toList.drop i → o ≤ cs.length →
     ∃ us, Me (Cj P B n) r us ∧ AB W (g0 W) us (cs.drop o).toArray by
    obtain ⟨us, h1, h2⟩ := H fs.toList 0 0 hf.1 hf.2 rfl (Nat.zero_le _);exact ⟨us, h1, by simpa using h2, hl⟩
   intro r;induction r with
   | nil =>
    intro o i hc _ _ ho
    have : o = cs.length := by rw [hl]; simpa [Lt] using hc
    subst this;exact ⟨[], rfl, by rw [List.drop_length]; exact AB.nil _ _⟩
   | cons f r ihr =>
    intro o i hc hall hr ho;simp only [Lt, Bool.and_eq_true, beq_iff_eq] at hc;have hfi : fs[i]? = some f := by
     have : (fs.toList.drop i)[0]? = some f := by rw [← hr]; rfl
     simpa using this
    have hil : i < xs.length := by
     rw [hlen];exact (Array.getElem?_eq_some_iff.1 hfi).1
    have hxi := hx i f hfi;rw [List.getElem?_eq_getElem hil] at hxi
    obtain ⟨us, h1, h2, h3⟩ := ih _ _ _ _ (hall f (by simp)) hxi (fun y hy => hwt y (by
     simp only [DataW.weights, hu];refine DataW.weights_mem_each (j := i) (t := f.type) (d := (xs[i]).1) ?_ ?_ y hy
     ·rw [List.getElem?_map, Array.getElem?_toList, hfi]; rfl
     ·rw [List.getElem?_map, List.getElem?_eq_getElem hil]; rfl))
    rw [hc.1] at h2 h3;rw [List.length_take, List.length_drop] at h3;obtain ⟨us', h4, h5⟩ := ihr (o + P.cellsOf f.type) (i + 1) hc.2 (fun f' hf' => hall f' (by simp [hf'])) (by rw [← List.drop_drop, ← hr]; rfl) (by omega)
    refine ⟨us ++ us', ⟨us, us', rfl, h1, h4⟩, ?_⟩
    have := AB.app h2 h5;rw [← List.drop_drop, List.take_append_drop] at this;exact this
  ·cases hf
theorem open_cell {B n : Nat} {t : TypeId} {v : Value} {d : DataW H} {p : List MemPlace} (hf : fo P n t = true) (hv : v.cells = #[v]) (h : DataW.Trod enc P W base spare held t v d p) (hwt : ∀ m ∈ d.weights P t, m ≤ B) :
  ∃ us, Cj P B n t us ∧ ∀ u, us = [u] → Rel W (g0 W) u v := by
 obtain ⟨fuel, h⟩ := h;rw [hv] at h;obtain ⟨us, h1, h2, _⟩ := Zaj B n fuel t _ _ hf h hwt;exact ⟨us, h1, fun u hu => h2.2.2 0 u v (by rw [hu]; rfl) rfl⟩
theorem Yy {B n : Nat} {t : TypeId} {us : List AV} (hu : P.underlying t = some .string) (h : Cj P B (n + 1) t us) : ∃ l : List UInt8, us = [.st l] ∧ l.length ≤ B := by unfold Cj at h; rw [hu] at h; exact h
theorem YA {B n : Nat} {k : IntKind} {t : TypeId} {us : List AV} (hu : P.underlying t = some (.int k)) (h : Cj P B (n + 1) t us) : ∃ i, us = [.it k i] ∧ (Lit.int k i).wf = true := by unfold Cj at h; rw [hu] at h; exact h
theorem KA {B n : Nat} {t : TypeId} {us : List AV} (hu : P.underlying t = some (.int .i64)) (h : Cj P B (n + 1) t us) : ∃ i, us = [.it .i64 i] ∧ -9223372036854775808 ≤ i ∧ i ≤ 9223372036854775807 := by
 obtain ⟨i, rfl, w⟩ := YA hu h;clear h;have h : (decide (IntKind.i64.min ≤ i) && decide (i ≤ IntKind.i64.max)) = true := w;simp only [Bool.and_eq_true, decide_eq_true_eq] at h;have h1 : IntKind.i64.min = -9223372036854775808 := by decide
 have h2 : IntKind.i64.max = 9223372036854775807 := by decide
 rw [h1, h2] at h;exact ⟨i, rfl, h⟩
theorem Yz {α : Type} {B n : Nat} {t e : TypeId} {us : List AV} (enc : α → AV) (Q : α → Prop) (hu : P.underlying t = some (.slice e)) (h : Cj P B (n + 1) t us) (he : ∀ x, Cj P B n e x → ∃ a, el (GC P e) x = enc a ∧ Q a) :
  ∃ l : List α, us = [.sl .ro (l.map enc)] ∧ l.length ≤ B ∧ ∀ a ∈ l, Q a := by
 unfold Cj at h;rw [hu] at h;obtain ⟨es, rfl, h1, h2⟩ := h;suffices H : ∃ l : List α, es.map (el (GC P e)) = l.map enc ∧ l.length = es.length ∧ ∀ a ∈ l, Q a by
  obtain ⟨l, e1, e2, e3⟩ := H;exact ⟨l, by rw [e1], by omega, e3⟩
 clear h2;induction es with
 | nil => exact ⟨[], rfl, rfl, by simp⟩
 | cons x es ih =>
  obtain ⟨l, e1, e2, e3⟩ := ih fun y hy => h1 y (by simp [hy])
  obtain ⟨a, e4, e5⟩ := he x (h1 x (by simp))
  exact ⟨a :: l, by rw [List.map_cons, List.map_cons, e1, e4], by simp [e2], fun b hb => by
   rcases List.mem_cons.1 hb with rfl | hb
   ·exact e5
   ·exact e3 b hb⟩
theorem Yx {B n : Nat} {t : TypeId} {fs : Array Field} {us : List AV} (hu : P.underlying t = some (.struct fs)) (h : Cj P B (n + 1) t us) : Me (Cj P B n) fs.toList us := by unfold Cj at h; rw [hu] at h; exact h
theorem weights_of {ts : List TypeId} {ds : List (DataW H)} (h : (DataW.weightsEach P ts ds).all (· ≤ reachBytes) = true) {j : Nat} {t : TypeId} {d : DataW H} (ht : ts[j]? = some t) (hd : ds[j]? = some d) : ∀ m ∈ d.weights P t, m ≤ 140737488351232 := fun m hm => by
 have := List.all_eq_true.1 h _ (DataW.weights_mem_each ht hd m hm);exact of_decide_eq_true this
end
end Pe
end
section
namespace Co
open Go
abbrev By := List UInt8
def Ii : Nat → Nat → By
 | 0, _ => []
 | f + 1, n => if n < 128 then [UInt8.ofNat n] else UInt8.ofNat (128 + n % 128) :: Ii f (n / 128)
theorem Sd : ∀ (f g n : Nat), n < f → n < g → Ii f n = Ii g n
 | 0, _, _, h, _ => by omega
 | _, 0, _, _, h => by omega
 | f + 1, g + 1, n, h, h' => by
  unfold Ii;by_cases hn : n < 128
  ·rw [if_pos hn, if_pos hn]
  ·rw [if_neg hn, if_neg hn, Sd f g (n / 128) (by omega) (by omega)]
def num (n : Nat) : By := Ii (n + 1) n
theorem Ih {n : Nat} (h : n < 128) : num n = [UInt8.ofNat n] := by unfold num Ii; rw [if_pos h]
theorem KS {n : Nat} (h : ¬ n < 128) : num n = UInt8.ofNat (128 + n % 128) :: num (n / 128) := by
 unfold num;rw [Ii, if_neg h, Sd n (n / 128 + 1) (n / 128) (by omega) (by omega)]
theorem Sb (n : Nat) : 0 < (num n).length := by
 by_cases h : n < 128
 ·rw [Ih h]; simp
 ·rw [KS h]; simp
theorem MF (k : Nat) : ∀ n, n < 128 ^ (k + 1) → (num n).length ≤ k + 1 := by
 induction k with
 | zero => intro n h; rw [Ih (by omega)]; simp
 | succ k ih =>
  intro n h;by_cases h1 : n < 128
  ·rw [Ih h1]; simp
  ·rw [KS h1, List.length_cons]
   have := ih (n / 128) (by rw [Nat.div_lt_iff_lt_mul (by omega)]; rw [Nat.pow_succ] at h; omega)
   omega
def Ag (n : Int) : By := if n < 0 then [] else num n.toNat
theorem GT (n : Nat) : Ag (n : Int) = num n := by unfold Ag; rw [if_neg (by omega), Int.toNat_natCast]
theorem Aj (n : Int) (h : n < 9223372036854775808) : (Ag n).length ≤ 9 := by
 unfold Ag;split
 ·simp
 ·exact MF 8 n.toNat (by omega)
def text (s : By) : By := num s.length ++ s
def list (l : List By) : By := num l.length ++ (l.map text).flatten
structure R where
 rest : By
 bad : Bool
def KK : By → Nat → Nat → Option (Nat × By)
 | [], _, _ => none
 | d :: r, i, n => if 9 ≤ i then none else if 128 ≤ d.toNat then KK r (i + 1) (n + (d.toNat - 128) * 2 ^ (7 * i)) else if d.toNat = 0 ∧ 0 < i then none else some (n + d.toNat * 2 ^ (7 * i), r)
theorem RF (d : UInt8) (r : By) (i n : Nat) : KK (d :: r) i n = if 9 ≤ i then none else if 128 ≤ d.toNat then KK r (i + 1) (n + (d.toNat - 128) * 2 ^ (7 * i)) else if d.toNat = 0 ∧ 0 < i then none else some (n + d.toNat * 2 ^ (7 * i), r) := rfl
def fail : R := ⟨[], true⟩
def R.num (x : R) : Nat × R := match KK x.rest 0 0 with
 | some (n, r) => (n, ⟨r, x.bad⟩)
 | none => (0, fail)
def R.take (x : R) (n : Nat) : By × R := if x.bad = true ∨ x.rest.length < n then ([], fail) else (x.rest.take n, ⟨x.rest.drop n, x.bad⟩)
def R.text (x : R) : By × R := x.num.2.take x.num.1
def R.texts : Nat → R → List By × R
 | 0, x => ([], x)
 | n + 1, x => if x.bad then ([], x) else (x.text.1 :: (R.texts n x.text.2).1, (R.texts n x.text.2).2)
def R.list (x : R) : List By × R :=
 let y := if x.num.2.rest.length < x.num.1 then fail else x.num.2
 if (y.texts x.num.1).2.bad then ([], (y.texts x.num.1).2) else y.texts x.num.1
theorem ofNat_lt {n : Nat} (h : n < 256) : (UInt8.ofNat n).toNat = n := by rw [UInt8.toNat_ofNat']; omega
theorem RE : ∀ (f n i acc : Nat) (rest : By), n < f → i ≤ 8 → n < 2 ^ (63 - 7 * i) → (0 < i → 0 < n) → KK (num n ++ rest) i acc = some (acc + n * 2 ^ (7 * i), rest)
 | 0, _, _, _, _, h, _, _, _ => by omega
 | f + 1, n, i, acc, rest, hf, hi, hn, h0 => by
  by_cases hs : n < 128
  ·rw [Ih hs, List.cons_append, List.nil_append, RF, ofNat_lt (by omega), if_neg (by omega), if_neg (by omega), if_neg (by omega)]
  ·have hi7 : i ≤ 7 := by
    refine Nat.le_of_not_lt fun h => ?_
    obtain rfl : i = 8 := by omega
    simp at hn
    omega
   rw [KS hs, List.cons_append, RF, ofNat_lt (by omega), if_neg (by omega), if_pos (by omega)]
   have hp : 2 ^ (63 - 7 * i) = 128 * 2 ^ (63 - 7 * (i + 1)) := by rw [show 63 - 7 * i = 7 + (63 - 7 * (i + 1)) from by omega, Nat.pow_add]
   have hq : 2 ^ (7 * (i + 1)) = 128 * 2 ^ (7 * i) := by rw [show 7 * (i + 1) = 7 + 7 * i from by omega, Nat.pow_add]
   rw [RE f (n / 128) (i + 1) _ rest (by omega) (by omega) (by omega) (fun _ => by omega)]
   congr 2
   rw [hq, show 128 + n % 128 - 128 = n % 128 from by omega, Nat.add_assoc]
   congr 1
   have : n = n % 128 + n / 128 * 128 := by omega
   generalize n % 128 = a at *;generalize n / 128 = b at *;rw [this, Nat.add_mul];congr 1
   rw [Nat.mul_assoc]
theorem Zf2 (n : Nat) (rest : By) (b : Bool) (h : n < 2 ^ 63) : R.num ⟨num n ++ rest, b⟩ = (n, ⟨rest, b⟩) := by
 unfold R.num;have := RE (n + 1) n 0 0 rest (by omega) (by omega) (by simpa using h) (by simp)
 simp only [Nat.zero_add, Nat.mul_zero, Nat.pow_zero, Nat.mul_one] at this;simp only [this]
theorem Zfk (s rest : By) : R.take ⟨s ++ rest, false⟩ s.length = (s, ⟨rest, false⟩) := by
 unfold R.take;rw [if_neg (by simp)]
 simp
end Co
end
section
namespace Sm
open Go
def Zdq (r : BitVec 32) : BitVec 32 := if Gw (r &&& 1#32) 1#32 then (r >>> 1) ^^^ 0x82f63b78#32 else r >>> 1
def UJ : Nat → BitVec 32 → BitVec 32
 | 0, r => r
 | n + 1, r => Zdq (UJ n r)
def ZdX (r : BitVec 32) (b : UInt8) : BitVec 32 := UJ 8 (r ^^^ bw b)
def Zds (l : List UInt8) : BitVec 32 := l.foldl ZdX 0xffffffff#32
def ZgA (l : List UInt8) : BitVec 32 := ~~~ (Zds l)
theorem XU (s : ByteArray) (k : Nat) (h : k < s.size) : s.data.toList.take (k + 1) = s.data.toList.take k ++ [s[k]] := by
 rw [List.take_succ_eq_append_getElem (by simpa using h)]; rfl
theorem XX (s : ByteArray) (k : Nat) (h : ¬ k < s.size) : s.data.toList.take k = s.data.toList := List.take_of_length_le (by simp; omega)
def JV (a b c d : UInt8) : BitVec 32 := (bw a <<< 24) ||| (bw b <<< 16) ||| (bw c <<< 8) ||| bw d
def LS (l : List UInt8) (i : Nat) : BitVec 32 := JV (l.getD (4 * i) 0) (l.getD (4 * i + 1) 0) (l.getD (4 * i + 2) 0) (l.getD (4 * i + 3) 0)
def CZ (x : BitVec 32) (n : Nat) : BitVec 32 := (x <<< (32 - n)) ||| (x >>> n)
def Bl (x : BitVec 32) : BitVec 32 := CZ x 7 ^^^ CZ x 18 ^^^ x >>> 3
def Ra (x : BitVec 32) : BitVec 32 := CZ x 17 ^^^ CZ x 19 ^^^ x >>> 10
def E9 (l : List UInt8) (k : Nat) : List (BitVec 32) := (List.range k).map (LS l)
def MH (ws : List (BitVec 32)) (i : Nat) : BitVec 32 := ws.getD (i - 16) 0 + Bl (ws.getD (i - 15) 0) + ws.getD (i - 7) 0 + Ra (ws.getD (i - 2) 0)
def BF (l : List UInt8) : Nat → List (BitVec 32)
 | 0 => E9 l 16
 | n + 1 => BF l n ++ [MH (BF l n) (16 + n)]
def CY (l : List UInt8) : List (BitVec 32) := BF l 48
theorem Mi (l : List UInt8) (n : Nat) : (BF l n).length = 16 + n := by
 induction n with
 | zero => simp [BF, E9]
 | succ n ih => simp [BF, ih]; omega
theorem Py (l : List UInt8) (k : Nat) : (E9 l k).length = k := by simp [E9]
theorem TV (l : List UInt8) (k : Nat) : E9 l (k + 1) = E9 l k ++ [LS l k] := by simp [E9, List.range_succ]
theorem Jf (l : List UInt8) : (CY l).length = 64 := by rw [CY, Mi]
theorem ZbW {α : Type} (l : List α) (x d : α) (j : Nat) : (l ++ [x]).getD j d = if j = l.length then x else l.getD j d := by
 simp only [List.getD_eq_getElem?_getD, List.getElem?_append]
 split
 ·rename_i h; rw [if_neg (by omega)]
 ·rename_i h
  by_cases hj : j = l.length
  ·subst hj; simp
  ·rw [if_neg hj, List.getElem?_eq_none (by simp; omega), List.getElem?_eq_none (by omega)]
theorem Zct (s : ByteArray) (a b i : Nat) (h : a + i < b) (hb : b ≤ s.size) (h' : i < (s.extract a b).size) : (s.extract a b)[i] = s.data.toList.getD (a + i) 0 := by
 have hs : s.data.size = s.size := rfl;rw [ByteArray.getElem_extract, List.getD_eq_getElem?_getD, List.getElem?_eq_getElem (by simp; omega)]
 rfl
def Ej : List (BitVec 32) := [1116352408, 1899447441, 3049323471, 3921009573, 961987163, 1508970993, 2453635748, 2870763221, 3624381080, 310598401, 607225278, 1426881987, 1925078388, 2162078206, 2614888103, 3248222580, 3835390401, 4022224774, 264347078, 604807628, 770255983, 1249150122, 1555081692, 1996064986, 2554220882, 2821834349, 2952996808, 3210313671, 3336571891, 3584528711, 113926993, 338241895, 666307205, 773529912, 1294757372, 1396182291, 1695183700, 1986661051, 2177026350, 2456956037, 2730485921, 2820302411, 3259730800, 3345764771, 3516065817, 3600352804, 4094571909, 275423344, 430227734, 506948616, 659060556, 883997877, 958139571, 1322822218, 1537002063, 1747873779, 1955562222, 2024104815, 2227730452, 2361852424, 2428436474, 2756734187, 3204031479, 3329325298]
structure S8 where
 a : BitVec 32
 b : BitVec 32
 c : BitVec 32
 d : BitVec 32
 e : BitVec 32
 f : BitVec 32
 g : BitVec 32
 h : BitVec 32
def S8.list (s : S8) : List (BitVec 32) := [s.a, s.b, s.c, s.d, s.e, s.f, s.g, s.h]
def S8.cells (s : S8) : List Value := [Ah s.a, Ah s.b, Ah s.c, Ah s.d, Ah s.e, Ah s.f, Ah s.g, Ah s.h]
theorem IG (s : S8) : s.cells.length = 8 := rfl
theorem ZdP (s : S8) : s.cells.toArray.size = 8 := rfl
theorem U3 (s t : S8) : s.cells.length = t.cells.toArray.size := (IG s).trans (ZdP t).symm
def S8.add (s t : S8) : S8 := ⟨s.a + t.a, s.b + t.b, s.c + t.c, s.d + t.d, s.e + t.e, s.f + t.f, s.g + t.g, s.h + t.h⟩
def R6 (k x : BitVec 32) (s : S8) : BitVec 32 := s.h + (CZ s.e 6 ^^^ CZ s.e 11 ^^^ CZ s.e 25) + ((s.e &&& s.f) ^^^ (~~~ s.e &&& s.g)) + k + x
def XI (s : S8) : BitVec 32 := (CZ s.a 2 ^^^ CZ s.a 13 ^^^ CZ s.a 22) + ((s.a &&& s.b) ^^^ (s.a &&& s.c) ^^^ (s.b &&& s.c))
def Jk (k x : BitVec 32) (s : S8) : S8 := ⟨R6 k x s + XI s, s.a, s.b, s.c, s.d + R6 k x s, s.e, s.f, s.g⟩
def Ia (l : List UInt8) (s : S8) : Nat → S8
 | 0 => s
 | n + 1 => Jk (Ej.getD n 0) ((CY l).getD n 0) (Ia l s n)
def Fu (s : S8) (l : List UInt8) : S8 := s.add (Ia l s 64)
def BA : S8 := ⟨1779033703, 3144134277, 1013904242, 2773480762, 1359893119, 2600822924, 528734635, 1541459225⟩
def Bw (m : Nat) : Nat := (120 - m % 64) % 64
def Ly (x : BitVec 64) : List UInt8 := [qb (x >>> 56), qb (x >>> 48), qb (x >>> 40), qb (x >>> 32), qb (x >>> 24), qb (x >>> 16), qb (x >>> 8), qb (x >>> 0)]
def ending (l : List UInt8) (n : Int) : List UInt8 := l ++ [128] ++ List.replicate (Bw (l.length + 1)) 0 ++ Ly (BitVec.ofInt 64 n * 8#64)
theorem NM (m : Nat) : Bw m < 64 := Nat.mod_lt _ (by omega)
theorem NN (m : Nat) : (m + Bw m) % 64 = 56 := by unfold Bw; omega
theorem Qi (m z : Nat) (h : z < Bw m) : (m + z) % 64 ≠ 56 := by unfold Bw at h; omega
def CE (l : List UInt8) (z : Nat) : List UInt8 := l ++ [128] ++ List.replicate z 0
theorem Fb (l : List UInt8) (z : Nat) : (CE l z).length = l.length + 1 + z := by simp [CE]; omega
theorem Ul (l : List UInt8) (z : Nat) : CE l (z + 1) = CE l z ++ [0] := by simp [CE, List.replicate_succ']
def Ef (x : BitVec 64) (j : Nat) : List UInt8 := (Ly x).take j
theorem VA (x : BitVec 64) (j : Nat) (h : j < 8) : Ef x (j + 1) = Ef x j ++ [qb (x >>> (56 - 8 * j))] := by
 rcases j with _ | _ | _ | _ | _ | _ | _ | _ | j
 all_goals first | rfl | omega
theorem PG (l : List UInt8) (n : Int) : (ending l n).length = l.length + 1 + Bw (l.length + 1) + 8 := by simp [ending, Ly]; omega
def Bo (l : List UInt8) (st : S8) : Nat → S8
 | 0 => st
 | n + 1 => Fu (Bo l st n) ((l.drop (64 * n)).take 64)
def Fe (x : BitVec 32) : List UInt8 := [wb (x >>> 24), wb (x >>> 16), wb (x >>> 8), wb x]
def Jd (l : List UInt8) : S8 :=
 let st := Bo l BA (l.length / 64)
 let tail := ending (l.drop (64 * (l.length / 64))) l.length
 Bo tail st (tail.length / 64)
def sha (l : List UInt8) : List UInt8 := (Jd l).list.flatMap Fe
theorem XJ : ∀ n : Fin 32, 0 < n.val → (BitVec.ofInt 64 (-(n.val : Int)) &&& 31#64).toNat = 32 - n.val ∧ (32#64 - (BitVec.ofInt 64 (-(n.val : Int)) &&& 31#64)).toNat = n.val := by decide +kernel
theorem Zb (x : BitVec 32) (n : Int) (h0 : 0 < n) (h : n < 32) : (x <<< (BitVec.ofInt 64 (-n) &&& 31#64).toNat ||| x >>> (32#64 - (BitVec.ofInt 64 (-n) &&& 31#64)).toNat) = CZ x n.toNat := by
 obtain ⟨k, rfl⟩ := Int.eq_ofNat_of_zero_le (Int.le_of_lt h0);have := XJ ⟨k, by omega⟩ (by simp only; omega)
 simp only at this
 rw [this.1, this.2, CZ, Int.toNat_natCast]
theorem Uk (l : List UInt8) (n : Int) : (ending l n).length % 64 = 0 := by
 rw [PG];have := NN (l.length + 1);omega
def digs : List UInt8 := [48, 49, 50, 51, 52, 53, 54, 55, 56, 57, 97, 98, 99, 100, 101, 102]
def Iw (b : UInt8) : UInt8 := digs.getD b.toNat 0
def hex2 (b : UInt8) : List UInt8 := [Iw (Fm b 4), Iw (b &&& 15)]
def hex (l : List UInt8) : List UInt8 := l.flatMap hex2
theorem ZbH (l : List UInt8) (b : UInt8) : hex (l ++ [b]) = hex l ++ hex2 b := by simp [hex]
theorem ZbI (l : List UInt8) : (hex l).length = 2 * l.length := by
 induction l with
 | nil => rfl
 | cons b l ih =>
  have : hex (b :: l) = hex2 b ++ hex l := rfl;rw [this, List.length_append, ih];simp [hex2]; omega
theorem Yv (b : UInt8) : (Fm b 4).toNat < 16 := by
 have := b.toNat_lt;unfold Fm;rw [UInt8.toNat_ofNat'];omega
theorem Zep (b : UInt8) : (b &&& 15).toNat < 16 := by
 rw [UInt8.toNat_and]
 have : b.toNat &&& (15 : UInt8).toNat ≤ 15 := Nat.and_le_right;omega
def BL (l : List UInt8) : Nat → Nat
 | 0 => 0
 | k + 1 => 256 * BL l k + (l.getD k 0).toNat
def num (l : List UInt8) : Nat := BL l 8 / 8
theorem nat8_lt (l : List UInt8) (k : Nat) : BL l k < 256 ^ k := by
 induction k with
 | zero => simp [BL]
 | succ k ih =>
  have := (l.getD k 0).toNat_lt;rw [BL, Nat.pow_succ];omega
theorem Sa (l : List UInt8) (k : Nat) (h : k < 8) : (BitVec.ofNat 64 (BL l k) <<< 8 ||| bq (l.getD k 0)) = BitVec.ofNat 64 (BL l (k + 1)) := by
 have hlt := nat8_lt l k;have hp : 256 ^ k ≤ 256 ^ 7 := Nat.pow_le_pow_right (by omega) (by omega)
 have hb := (l.getD k 0).toNat_lt;rw [BL];apply BitVec.eq_of_toNat_eq
 rw [BitVec.toNat_or, BitVec.toNat_shiftLeft, BitVec.toNat_ofNat, BitVec.toNat_ofNat, Nat.shiftLeft_eq];have hq : (bq (l.getD k 0)).toNat = (l.getD k 0).toNat := by
  unfold bq;rw [BitVec.toNat_setWidth, UInt8.toNat_toBitVec, Nat.mod_eq_of_lt (by omega)]
 rw [hq];generalize (l.getD k 0).toNat = b at hb ⊢;generalize BL l k = n at hlt ⊢;have h1 : n % 2 ^ 64 = n := Nat.mod_eq_of_lt (by omega)
 rw [h1];have h2 : n * 2 ^ 8 % 2 ^ 64 = n * 2 ^ 8 := Nat.mod_eq_of_lt (by omega)
 rw [h2, nat_join 8 (n * 2 ^ 8) b (by omega) (by omega)]
 omega
theorem Zap (l : List UInt8) (k : Nat) (h : k < 8) (hk : l.length ≤ k) : BitVec.ofNat 64 (BL l k) <<< 8 = BitVec.ofNat 64 (BL l (k + 1)) := by
 have h1 := Sa l k h;have h0 : l.getD k 0 = 0 := by simp [List.getD_eq_getElem?_getD, List.getElem?_eq_none hk]
 rw [h0] at h1;rw [← h1];simp [bq]
theorem Zar (l : List UInt8) : Pb ((BitVec.ofNat 64 (BL l 8)) >>> 3) = (num l : Int) := by
 unfold Pb;have hlt := nat8_lt l 8;have h1 : ((BitVec.ofNat 64 (BL l 8)) >>> 3).toNat = num l := by
  rw [BitVec.toNat_ushiftRight, BitVec.toNat_ofNat, Nat.mod_eq_of_lt (by omega), Nat.shiftRight_eq_div_pow]; rfl
 rw [BitVec.toInt_eq_toNat_of_lt (by rw [h1]; unfold num; omega), h1]
theorem Zau {y : ByteArray} (h : 0 < y.size) : y.toList.isEmpty = false := by
 rw [ByteArray.toList_eq]
 have : y.data.toList.length = y.size := by simp
 cases hh : y.data.toList with
 | nil => rw [hh] at this; simp at this; omega
 | cons a l => rfl
theorem ZcM {y : ByteArray} (h : ¬ 0 < y.size) : y.toList.isEmpty = true := by
 rw [ByteArray.toList_eq]
 have : y.data.toList.length = y.size := by simp
 cases hh : y.data.toList with
 | nil => rfl
 | cons a l => rw [hh] at this; simp at this; omega
theorem Zdm (st : S8) (j : Nat) (h : j < 8) : (st.list.take (j + 1)).flatMap Fe = (st.list.take j).flatMap Fe ++ Fe (st.list.getD j 0) := by
 rcases j with _ | _ | _ | _ | _ | _ | _ | _ | j
 all_goals first | rfl | omega
theorem Q5 (r : ByteArray) (h : 64 ≤ r.size) : (r.extract 0 64).size = 64 := by rw [ByteArray.size_extract]; omega
theorem QR (r : ByteArray) : (r.extract 0 64).data.toList = r.data.toList.take 64 := by
 simp [ByteArray.data_extract]
theorem Ux (r : ByteArray) (b : Nat) (h : r.size ≤ b) : (r.extract 64 b).data.toList = r.data.toList.drop 64 := by
 have : r.data.toList.length = r.size := by simp
 rw [ByteArray.data_extract, Array.toList_extract, List.extract_eq_take_drop, List.take_of_length_le (by simp; omega)]
end Sm
end
end Go.Proofs.YtiidnoejnphocaaGreatDoor
