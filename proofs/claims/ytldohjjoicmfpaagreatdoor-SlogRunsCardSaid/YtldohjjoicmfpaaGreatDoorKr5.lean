/- A part. -/
import Derived.Test.YtldohjjoicmfpaaGreatDoorKr4
import Derived.Below
import Derived.ChangeSame
import Derived.ProofKit
import Derived.OpenShut
import Derived.ShutString
import Derived.Deep.Strs
import Derived.SizedLaws
import Derived.Deep.Slices
import Derived.ChangeArms
import Derived.Laws.Entries
set_option linter.unusedSectionVars false
set_option linter.unusedVariables false
set_option linter.unusedSimpArgs false
namespace Go.Proofs.YtldohjjoicmfpaaGreatDoor
section
namespace Pe
open Go Go.RowKit
variable [Tab]
structure AO where
 dst : Option Nat
 op : Op
 gd : Option (Option Nat × Bool)
inductive CC where
 | skip | rfunc (N : Nat) (g : Operand) (ps : Array Tmp) (asn bdy : Code) | reg (l : List AO) | seq (a b : CC) | cond (c : Operand) (t f : CC) | block (id : Nat) (b : CC) | loop (b : CC) | exit (id : Nat) | ret | bad
inductive AX where
 | norm | exit (id : Nat) | ret
def DB (ops : Array Oper) (o : Oper) : AO := ⟨o.dst, o.op, match o.guard with
 | none => none
 | some (j, want) => some ((ops[j]?).bind (·.dst), want)⟩
def B4 (k : Option Nat) : Code → CC
 | .skip => .skip
 | .label _ => .skip
 | .region _ ops _ => .reg (ops.toList.map (DB ops))
 | .seq a b => .seq (B4 k a) (B4 k b)
 | .cond c a b => .cond c (B4 k a) (B4 k b)
 | .block id b => .block id (B4 k b)
 | .loop b => .loop (B4 k b)
 | .exit id => .exit id
 | .ret => .ret
 | .rangeFunc g ps asn bdy => match k with
  | some N => .rfunc N g ps asn bdy
  | none => .bad
 | _ => .bad
abbrev C7 : Code → CC := B4 none
def DS : Code → Bool
 | .seq a b => DS a && DS b
 | .cond _ a b => DS a && DS b
 | .block _ b => DS b
 | .loop b => DS b
 | .rangeFunc _ _ _ _ => false
 | _ => true
def Cz (N : Nat) (e : Af) : List AV := (List.range N).map e
def HL (gd : Option (Option Nat × Bool)) (e : Af) : Option Bool :=
 match gd with
 | none => some true
 | some (none, _) => some false
 | some (some d, want) => match e d with
  | .bo b => some (b == want)
  | .tup [] => some false
  | _ => none
def Bh (P : Program) (pf rf : List FuncId) : List AO → Af → Ae → (Af → Ae → Prop) → Prop
 | [], e, S, K => K e S
 | o :: rest, e, S, K => BB (HL o.gd e) fun b => C5 b (Ba P pf rf o.op e S fun v S' => Bh P pf rf rest (put e o.dst v) S' K) (Bh P pf rf rest (put e o.dst (.tup [])) S K)
def Ay (N0 : Nat) (e : Af) (S : Ae) (e' : Af) (S' : Ae) : Prop :=
 ∀ (N : Nat) (w0 : World) (g0 : Gh) (a : Act) (w : World), g0.nid = N0 → AP N w0 g0 e S a w → AP N w0 g0 e' S' a w
def Ec (Q : AX → Af → Ae → Prop) (next : Af → Ae → Prop) : AX → Af → Ae → Prop
 | .norm => next
 | x => Q x
def I8 (N0 : Nat) (I : Nat → Af → Ae → Prop) (n : Nat) (e : Af) (S : Ae) : Prop := ∃ n' e' S', n' < n ∧ Ay N0 e S e' S' ∧ I n' e' S'
def JH (N0 : Nat) (B : (AX → Af → Ae → Prop) → Af → Ae → Prop) (Q : AX → Af → Ae → Prop) (e : Af) (S : Ae) : Prop :=
 ∃ I : Nat → Af → Ae → Prop, (∃ n e' S', Ay N0 e S e' S' ∧ I n e' S') ∧ ∀ n e S, I n e S → B (Ec Q (I8 N0 I n)) e S
def EA (id : Nat) (Q : AX → Af → Ae → Prop) : AX → Af → Ae → Prop
 | .exit i => if i = id then Q .norm else Q (.exit i)
 | x => Q x
def K6 (P : Program) (N : Nat) (g : Operand) (ps : Array Tmp) (asn bdy : Code) (K : Af → Ae → Prop) (e : Af) (S : Ae) : Prop :=
 match ev e g with
 | .fn (.func f) fa ca => ∃ v S' U, S'.length = S.length ∧ (∀ b D fn, AC P f (fa ++ [.fn (.yield b) [] []] ++ ca) (S ++ [.loop b D fn (Cz N e) ps asn bdy .ready]) v (S' ++ .loop b D fn (Cz N e) ps asn bdy .ready :: U)) ∧ K e (S' ++ .dead :: U)
 | _ => False
def AW (P : Program) (pf rf : List FuncId) (N0 : Nat) : CC → (AX → Af → Ae → Prop) → Af → Ae → Prop
 | .skip, Q, e, S => Q .norm e S
 | .reg l, Q, e, S => Bh P pf rf l e S (Q .norm)
 | .seq a b, Q, e, S => AW P pf rf N0 a (Ec Q (AW P pf rf N0 b Q)) e S
 | .cond c t f, Q, e, S => match ev e c with
  | .bo b => C5 b (AW P pf rf N0 t Q e S) (AW P pf rf N0 f Q e S)
  | _ => False
 | .block id b, Q, e, S => AW P pf rf N0 b (EA id Q) e S
 | .loop b, Q, e, S => JH N0 (AW P pf rf N0 b) Q e S
 | .exit id, Q, e, S => Q (.exit id) e S
 | .ret, Q, e, S => Q .ret e S
 | .rfunc N g ps asn bdy, Q, e, S => ∃ e1 S1, Ay N0 e S e1 S1 ∧ K6 P N g ps asn bdy (Q .norm) e1 S1
 | .bad, _, _, _ => False
def DV (P : Program) (pf rf : List FuncId) (N : Nat) : Code → Bool
 | .region _ ops draw => Eh N ops && (!draw || OE (Dq P pf rf) ops)
 | .seq a b => DV P pf rf N a && DV P pf rf N b
 | .cond _ a b => DV P pf rf N a && DV P pf rf N b
 | .block _ b => DV P pf rf N b
 | .loop b => DV P pf rf N b
 | .rangeFunc _ _ asn bdy => DS asn && DS bdy
 | _ => true
def Eo (N : Nat) (w0 : World) (g0 : Gh) (Q : AX → Af → Ae → Prop) : Exit → Act → World → Prop
 | .normal, a, w => ∃ e S, AP N w0 g0 e S a w ∧ Q .norm e S
 | .exit id, a, w => ∃ e S, AP N w0 g0 e S a w ∧ Q (.exit id) e S
 | .ret, a, w => ∃ e S, AP N w0 g0 e S a w ∧ Q .ret e S
 | _, _, _ => False
section
variable {P : Program} {N N0 : Nat} {w0 : World} {g0 : Gh} {pf rf : List FuncId}
theorem IR {ops : Array Oper} {Q : Af → Ae → Prop} : ∀ (l : List Oper) (e : Af) (S : Ae), Bh P pf rf (l.map (DB ops)) e S Q → DH P (Dq P pf rf) ops Q l e S
 | [], e, S, h => h
 | o :: rest, e, S, h => by
  simp only [List.map_cons, Bh] at h;have hg : HL (DB ops o).gd e = CL ops o e := by
   unfold DB CL;cases hgd : o.guard with
   | none => rfl
   | some p =>
    obtain ⟨j, want⟩ := p;simp only [HL, Nf];cases hd : (ops[j]?).bind (·.dst) with
    | none => cases want <;> rfl
    | some d =>
     simp only
     cases he : e d with
     | bo b => cases b <;> cases want <;> rfl
     | tup vs => cases vs <;> cases want <;> rfl
     | _ => rfl
  rw [hg] at h;unfold DH;obtain ⟨b, hb, h⟩ := CB h
  ·simp only [hb]
   cases b with
   | true =>
    obtain ⟨v, S', h1, h2⟩ := PU (o := o) (h.1 rfl);exact ⟨v, S', h1, IR rest _ _ h2⟩
   | false => exact IR rest _ _ (h.2 rfl)
theorem Le.below {w w' : World} (g : Gh) (h : Below w.heap.size w w') : Le w g w' g :=
 ⟨fun b o v _ hv => by rw [World.cell?_of_block (w := w) (w' := w') (h.block b (World.block_lt_of_cell? w _ hv))]; exact hv, fun _ _ _ h _ => h, Nat.le_refl _, fun _ _ => ⟨rfl, .inl ⟨rfl, rfl, rfl⟩⟩, fun b me c h h' => ⟨h, by rw [Below.block ‹_› b (Array.getElem?_eq_some_iff.1 h').1]; exact h'⟩⟩
theorem WF.below {w w' : World} {g : Gh} {S : Ae} (hw : WF w g S) (h : Below w.heap.size w w') : WF w' g S := by
 refine ⟨hw.nid, fun l o hl => ?_, hw.disj, fun l b hl hb => ?_, hw.tab.le (Le.below g h)⟩
 ·have hlt : l < g.nid := by rw [hw.nid]; exact (List.getElem?_eq_some_iff.1 hl).1
  exact (hw.obj l o hl).keep (Le.below g h) rfl rfl rfl rfl rfl (fun _ _ => rfl) (fun b hb => h.block b (hw.lt l b hlt hb))
 ·have := hw.lt l b hl hb
  have := h.size;omega
theorem Evo.below {w w' : World} (g : Gh) (h : Below w.heap.size w w') : Evo w g w' g :=
 ⟨Le.below g h, h.os, h.tape, h.output, h.size, fun b hb _ => h.block b hb, fun _ _ hl hb _ => ⟨hl, hb⟩, fun _ _ _ => rfl⟩
theorem Ld {F : Fence} {n : Nat} {P : Program} {Q : Exit → Act → World → Prop} {a : Act} {w : World} {c : Code} (I : Nat → Act → World → Prop) (n₀ : Nat) (h₀ : I n₀ a w)
  (round : ∀ n' a w, I n' a w → c.wpIn F n P (Exit.then (fun a' w' => ∃ n'', n'' < n' ∧ I n'' a' w') Q) a w) : (Code.loop c).wpIn F n P Q a w := by
 refine wpIn_loop (fun a w => ∃ n, I n a w) (fun a w => leastOf (fun n => I n a w)) ⟨n₀, h₀⟩ ?_
 intro a w hI;refine Go.wpIn_mono (round _ a w (leastOf_spec hI).1) ?_
 intro e a' w' hq;cases e with
 | normal =>
  obtain ⟨n', hlt, hI'⟩ := hq;exact show (∃ n, I n a' w') ∧ leastOf (fun n => I n a' w') < leastOf (fun n => I n a w) from ⟨⟨n', hI'⟩, Nat.lt_of_le_of_lt ((leastOf_spec ⟨n', hI'⟩).2 n' hI') hlt⟩
 | exit id => exact hq
 | goto l => exact hq
 | ret => exact hq
 | panic ch => exact hq
 | outgrown => exact hq
theorem Cv.le {w w' : World} {g g' : Gh} {e : Af} {a : Act} (h : Cv w g e a) (hl : Le w g w' g') : Cv w' g' e a := fun t => (h t).le hl
theorem ZdB {w : World} {g : Gh} {e : Af} {a : Act} (h : Cv w g e a) : ∀ (j : Nat) u x, (Cz a.tmps.size e)[j]? = some u → a.tmps[j]? = some x → Rel w g u x := by
 intro j u x hu hx;unfold Cz at hu;rw [List.getElem?_map] at hu
 obtain ⟨y, hy, rfl⟩ := Option.map_eq_some_iff.1 hu;have hj : y = j := by
  rw [List.getElem?_range (by have := (List.getElem?_eq_some_iff.1 hy).1; simpa using this)] at hy
  simpa using hy.symm
 subst hj;have := h y;rw [Array.getD_eq_getD_getElem?, hx] at this;exact this
theorem ZfO {g : Operand} {ps : Array Tmp} {asn bdy : Code} {Q : AX → Af → Ae → Prop} {e : Af} {S : Ae} {a : Act} {w : World} (hc : AP N w0 g0 e S a w) (h : K6 P N g ps asn bdy (Q .norm) e S) :
  (Code.rangeFunc g ps asn bdy).wpIn (wR none) 0 P (Eo N w0 g0 Q) a w := by
 obtain ⟨hsz, _, gh, hw, he, hD⟩ := hc;unfold K6 at h;split at h
 ·rename_i f fa ca hf
  obtain ⟨v, S', U, hlen, hac, hK⟩ := h;refine wpIn_rangeFunc fun fn _ => ?_
  have hgv := Jt he g;rw [hf] at hgv;generalize hcf : a.eval g = cf at hgv;cases hgv with
  | fn _ _ _ _ fav cav hfs hcs hrf hrc =>
   have hB : Below w.heap.size w (w.alloc (.deferred (some []))) := (Below.refl _ w).alloc (Nat.le_refl _) _;have hw1 := hw.below hB;have hE1 := Evo.below gh hB;have hsz1 : (w.alloc (.deferred (some []))).heap.size = w.heap.size + 1 := by simp
   let r : Loop := { state := .ready, pending := none, fn, tmps := a.tmps, params := ps, assign := asn, body := bdy, defers := w.heap.size }
   have hpush := hw1.alloc_push (.loop r) false 0 0 0 (o := .loop (w.heap.size + 1) w.heap.size fn (Cz N e) ps asn bdy .ready) (by
    refine ⟨by simp [Gh.push], by simp [Gh.push], by simp [Gh.push], by simp [Gh.push], a.tmps, ?_, by simp [Cz, hsz], ?_⟩
    ·simp only [Gh.push, if_true]
     exact World.alloc_heap_new _ _
    ·have := ZdB (he.le (hE1.toLe.trans (Le.push_new _ gh (.loop r) false 0 0 0)))
     rw [hsz] at this;exact this)
   obtain ⟨hw2, hE2⟩ := hpush;have hE := hE1.trans hE2;have hfb : (Instr.enterLoop fn a.tmps ps asn bdy (wR none).round).run P w = .ok (w.heap.size + 1, [{ target := .collected w.heap.size, args := #[] }]) ((w.alloc (.deferred (some []))).alloc (.loop r)) := run_enterLoop_outer fn a.tmps ps asn bdy;have hres : ∀ w', (resolve a.eval (rangeCall g (w.heap.size + 1)) 0).run P w' = .ok { target := .fn (.func f) cav, args := fav ++ #[.func (.yield (w.heap.size + 1)) #[] #[]] } w' := fun w' => by
    simp only [resolve, rangeCall, hcf, Deferred.ofValue, Sem.run_bind, Sem.run_pure, Result.andThen_ok, List.map_toArray, List.map_cons, List.map_nil];rfl
   have hac' := hac (w.heap.size + 1) w.heap.size fn;refine ⟨w.heap.size + 1, _, _, _, _, f, fav ++ #[.func (.yield (w.heap.size + 1)) #[] #[]] ++ cav, (w.alloc (.deferred (some []))).alloc (.loop r), hfb, hres _, fun _ _ => trivial, ?_, fun q => by simp [wR, Fence.wide] at q, ?_⟩
   ·simp only [invoke]
    exact Rk hac'.can _ _
   ·have hyl : ∀ w' g', Rel w' g' (.fn (.yield (w.heap.size + 1)) [] []) (.func (.yield (w.heap.size + 1)) #[] #[]) := fun w' g' => .fn g' (.yield (w.heap.size + 1)) [] [] #[] #[] rfl rfl (by simp) (by simp)
    have hargs : De ((w.alloc (.deferred (some []))).alloc (.loop r)) (gh.push (w.alloc (.deferred (some []))).heap.size false 0 0 0) (fa ++ [.fn (.yield (w.heap.size + 1)) [] []] ++ ca) (fav ++ #[.func (.yield (w.heap.size + 1)) #[] #[]] ++ cav) := by
     refine ⟨by simp [hfs, hcs]; omega, fun j u x hu hx => ?_⟩
     have hx' : (fav.toList ++ [.func (.yield (w.heap.size + 1)) #[] #[]] ++ cav.toList)[j]? = some x := by
      rw [← hx, ← Array.getElem?_toList]
      simp
     have l1 : fav.toList.length = fa.length := by simpa using hfs
     rw [List.append_assoc, List.getElem?_append] at hu hx'
     rw [l1] at hx';split at hu
     ·rename_i h1
      rw [if_pos h1] at hx';exact (hrf j u x hu (by simpa using hx')).le hE.toLe
     ·rename_i h1
      rw [if_neg h1] at hx';cases hj : j - fa.length with
      | zero =>
       rw [hj] at hu hx';simp at hu hx'
       subst hu; subst hx';exact hyl _ _
      | succ m =>
       rw [hj] at hu hx';simp at hu hx'
       exact (hrc m u x hu (by simpa using hx')).le hE.toLe
    refine (VF (hac'.run _ _ _ hw2 hargs) none _).mono ?_
    rintro r' w3 ⟨cv, g3, rfl, hw3, _, hE3⟩
    have hl3 : (S' ++ .loop (w.heap.size + 1) w.heap.size fn (Cz N e) ps asn bdy .ready :: U)[S.length]? = some (.loop (w.heap.size + 1) w.heap.size fn (Cz N e) ps asn bdy .ready) := by
     rw [← hlen, List.getElem?_append_right (Nat.le_refl _), Nat.sub_self]; rfl
    obtain ⟨b1, b2, b3, b4, tm, b5, b6, b7⟩ := hw3.obj _ _ hl3;rw [b4] at b5;refine ⟨none, _, run_endLoop b5 (by simp), ?_⟩
    have hput := hw3.put (o := .dead) (ob := .loop { state := .exhausted, pending := none, fn, tmps := tm, params := ps, assign := asn, body := bdy, defers := w.heap.size }) (List.getElem?_eq_some_iff.1 hl3).1 b2 b3 trivial
    obtain ⟨hw4, hE4⟩ := hput;rw [b4] at hw4 hE4;have hset : (S' ++ SObj.loop (w.heap.size + 1) w.heap.size fn (Cz N e) ps asn bdy .ready :: U).set S.length .dead = S' ++ .dead :: U := by
     rw [← hlen, List.set_append_right _ _ (Nat.le_refl _), Nat.sub_self]; rfl
    rw [hset] at hw4;have hEall := (hE.trans hE3).trans hE4;refine ⟨e, S' ++ .dead :: U, ⟨hsz, trivial, g3, hw4, he.le hEall.toLe, ?_⟩, hK⟩
    have hD' := hD.trans hEall;refine ⟨hD'.toEvo, fun d hd => ?_, ?_⟩
    ·simp only [List.cons_append, List.nil_append, List.mem_cons] at hd
     rcases hd with rfl | hd
     ·have hno : ∀ l, l < (gh.push (w.alloc (.deferred (some []))).heap.size false 0 0 0).nid → ¬ (gh.push (w.alloc (.deferred (some []))).heap.size false 0 0 0).own l w.heap.size := by
       intro l hl ho;simp only [Gh.push, hsz1] at hl ho;split at ho
       ·omega
       ·have := hw.lt l _ (by omega) ho
        omega
      have hlt2 : w.heap.size < ((w.alloc (.deferred (some []))).alloc (.loop r)).heap.size := by simp; omega
      have hE34 := hE3.trans hE4;refine ⟨w.heap.size, rfl, hD.size, Nat.lt_of_lt_of_le hlt2 hE34.size, ?_, fun l hl ho => ?_⟩
      ·exact (hE34.old _ hlt2 hno).trans ((hE2.old _ (by simp) (fun l hl ho => by have := hw.lt l _ hl ho; omega)).trans (World.alloc_heap_new _ _))
      ·have := hE34.own l _ hl ho hlt2
       exact hno l this.1 this.2
     ·exact hD'.defs d hd
    ·simp only [List.cons_append, List.nil_append, List.map_cons, List.nodup_cons]
     refine ⟨fun hm => ?_, hD.nodup⟩
     obtain ⟨d, hd, hdt⟩ := List.mem_map.1 hm;obtain ⟨b, q1, _, q3, _⟩ := hD.defs d hd;rw [hdt] at q1;cases q1
     omega
 ·exact h.elim
theorem W8 (k : Option Nat) (hk : ∀ M, k = some M → M = N) (ro : Option Nat) (hm : P.follows .mixedOrders = true) (hN0 : g0.nid = N0) : ∀ (c : Code) (Q : AX → Af → Ae → Prop) (e : Af) (S : Ae) (a : Act) (w : World), DV P pf rf N c = true → (ro = none ∨ DS c = true) → AP N w0 g0 e S a w → AW P pf rf N0 (B4 k c) Q e S → c.wpIn (wR ro) 0 P (Eo N w0 g0 Q) a w := by
 intro c;induction c with
 | skip => intro Q e S a w _ _ hc h; exact wpIn_skip ⟨e, S, hc, h⟩
 | label l => intro Q e S a w _ _ hc h; exact wpIn_label ⟨e, S, hc, h⟩
 | ret => intro Q e S a w _ _ hc h; exact wpIn_ret ⟨e, S, hc, h⟩
 | exit id => intro Q e S a w _ _ hc h; exact wpIn_exit ⟨e, S, hc, h⟩
 | region id ops draw =>
  intro Q e S a w hok hrf hc h;simp only [DV, Bool.and_eq_true] at hok;simp only [B4, AW] at h;have hL := IR ops.toList e S h;have hQ : ∀ e S a w, AP N w0 g0 e S a w → Q .norm e S → Eo N w0 g0 Q .normal a w := fun e S a w hc hq => ⟨e, S, hc, hq⟩
  cases draw with
  | false => exact N6 hok.1 hQ hc hL ro
  | true => exact ZaK hm (by simpa using hok.2) hok.1 hQ hc hL ro
 | seq x y ihx ihy =>
  intro Q e S a w hok hrf hc h;simp only [DV, Bool.and_eq_true] at hok;simp only [B4, AW] at h;refine wpIn_seq (Go.wpIn_mono (ihx _ e S a w hok.1 (hrf.imp id fun q => (by simpa [DS] using q : _ ∧ _).1) hc h) ?_)
  intro ex a' w' hq;cases ex with
  | normal => obtain ⟨e', S', hc', h'⟩ := hq; exact ihy Q e' S' a' w' hok.2 (hrf.imp id fun q => (by simpa [DS] using q : _ ∧ _).2) hc' h'
  | exit id => exact hq
  | ret => exact hq
  | _ => exact hq.elim
 | cond c x y ihx ihy =>
  intro Q e S a w hok hrf hc h;simp only [DV, Bool.and_eq_true] at hok;simp only [B4, AW] at h;split at h
  ·rename_i b hb
   have hcb : a.eval c = .bool b := by
    obtain ⟨_, _, g, _, h4, _⟩ := hc;have := Jt h4 c;rw [hb] at this;cases hv : a.eval c <;> rw [hv] at this <;> cases this
    rfl
   refine wpIn_cond_split hcb (fun ht => ihx Q e S a w hok.1 (hrf.imp id fun q => (by simpa [DS] using q : _ ∧ _).1) hc (h.1 ht)) (fun hf => ihy Q e S a w hok.2 (hrf.imp id fun q => (by simpa [DS] using q : _ ∧ _).2) hc (h.2 hf))
  ·exact h.elim
 | block id c ih =>
  intro Q e S a w hok hrf hc h;simp only [B4, AW] at h;refine wpIn_block (Go.wpIn_mono (ih _ e S a w hok hrf hc h) ?_)
  intro ex a' w' hq;cases ex with
  | normal => exact hq
  | exit i =>
   obtain ⟨e', S', hc', h'⟩ := hq;simp only [EA] at h';simp only [Exit.inBlock];by_cases hi : i = id
   ·rw [if_pos hi] at h' ⊢; exact ⟨e', S', hc', h'⟩
   ·rw [if_neg hi] at h' ⊢; exact ⟨e', S', hc', h'⟩
  | ret => exact hq
  | _ => exact hq.elim
 | loop c ih =>
  intro Q e S a w hok hrf hc h;simp only [B4, AW] at h;obtain ⟨I, ⟨n, e', S', hwk, hI⟩, hround⟩ := h;refine Ld (fun n a w => ∃ e S, AP N w0 g0 e S a w ∧ I n e S) n ⟨e', S', hwk N w0 g0 a w hN0 hc, hI⟩ ?_
  rintro n a w ⟨e, S, hc, hI⟩
  refine Go.wpIn_mono (ih _ e S a w hok hrf hc (hround n e S hI)) ?_
  intro ex a' w' hq;cases ex with
  | normal =>
   obtain ⟨e1, S1, hc1, n', e2, S2, hlt, hwk', hI'⟩ := hq;exact ⟨n', hlt, e2, S2, hwk' N w0 g0 a' w' hN0 hc1, hI'⟩
  | exit i => exact hq
  | ret => exact hq
  | _ => exact hq.elim
 | rangeFunc g ps asn bdy _ _ =>
  intro Q e S a w hok hrf hc h;rcases hrf with rfl | hrf
  ·simp only [B4] at h
   cases k with
   | none => exact h.elim
   | some M =>
    have hMN := hk M rfl;subst hMN;obtain ⟨e1, S1, hwk, h⟩ := h;exact ZfO (hwk M w0 g0 a w hN0 hc) h
  ·cases hrf
 | _ => intro Q e S a w _ _ _ h; exact h.elim
theorem Xb {c : Code} (ro : Option Nat) (hrf : ro = none ∨ DS c = true) (hm : P.follows .mixedOrders = true) (hN0 : g0.nid = N0) (Q : AX → Af → Ae → Prop) (e : Af) (S : Ae) (a : Act) (w : World) (hok : DV P pf rf N c = true) (hc : AP N w0 g0 e S a w) (h : AW P pf rf N0 (C7 c) Q e S) : c.wpIn (wR ro) 0 P (Eo N w0 g0 Q) a w :=
 W8 none (fun _ e => by cases e) ro hm hN0 c Q e S a w hok hrf hc h
end
def CM (P : Program) (rs : List ResultVar) (e : Af) (S : Ae) : Option (List AV) :=
 match rs with
 | [] => some []
 | .tmp t :: rest => (CM P rest e S).map (e t :: ·)
 | .cell a t :: rest => match DW (AA P t) S (e a), CM P rest e S with
  | some v, some vs => some (v :: vs)
  | _, _ => none
def Dh : List AV → AV
 | [v] => v
 | vs => .tup vs
def Ci (args : List AV) : Af := fun t => args.getD t .junk
def Fin (P : Program) (rs : List ResultVar) (N0 : Nat) (v : AV) (S' : Ae) (e : Af) (S : Ae) : Prop :=
 ∃ e1 S1 vs κ, Ay N0 e S e1 S1 ∧ CM P rs e1 S1 = some vs ∧ SubOk κ S1 S' ∧ κ.take N0 = List.range N0 ∧ v.ok κ.length = true ∧ (Dh vs = v.ren (At κ) ∨ (Dh vs).wk = v.ren (At κ))
def C6 (P : Program) (rs : List ResultVar) (N0 : Nat) (v : AV) (S' : Ae) : AX → Af → Ae → Prop
 | .norm => Fin P rs N0 v S'
 | .ret => Fin P rs N0 v S'
 | .exit _ => fun _ _ => False
section
variable {P : Program}
theorem Zfu {w : World} {g : Gh} {S : Ae} (hw : WF w g S) {ty : TypeId} {x v : AV} {cx : Value} (hx : Rel w g x cx) (h : DW (AA P ty) S x = some v) : ∃ ad cv, cx = .pointer (some ad) ∧ (loadVar ty ad).run P w = .ok cv w ∧ Rel w g v cv := by
 unfold DW at h;split at h
 ·rename_i sz ag l off hs
  split at h
  ·rename_i cs hS
   obtain ⟨arr, T, fr, h4, h5, hc, hl, _⟩ := Om hw hS;cases hx
   obtain ⟨cv, h1, h2⟩ := Kn (P := P) hc (b := g.pl l) (o := 0) (fun j hj => by rw [Nat.zero_add, cell_of_row w (g.pl l) j arr T fr h4]) hs h
   rw [Nat.zero_add] at h1;exact ⟨_, cv, rfl, h1, h2⟩
  ·cases h
 ·rename_i sz ag v' off hs
  cases hx with
  | pst _ _ _ b o' cu hA h1 hr' =>
   have hc : AF w g v'.cells ((List.range v'.cells.length).map cu).toArray := by
    refine ⟨by simp, fun u hu => ?_, fun j u z hu hz => ?_⟩
    ·simp only [List.mem_map, List.mem_range] at hu
     obtain ⟨j, hj, rfl⟩ := hu;exact h1 j hj
    ·have hj := (List.getElem?_eq_some_iff.1 hu).1
     simp [List.getElem?_range hj] at hz
     rw [← hz];exact (hr' j u hu).ofNoid
   obtain ⟨cv, h2, h3⟩ := Kn (P := P) hc (b := b) (o := o') (fun j hj => by
    have hj' : j < v'.cells.length := by simpa using hj
    rw [(hA j hj').2];simp [List.getElem?_range hj']) hs h
   exact ⟨_, cv, rfl, h2, h3⟩
 ·rename_i sz ag l n off hs
  split at h
  ·rename_i cs el z hS
   split at h
   ·rename_i hc0
    exact Rt (P := P) hw hs hS hc0 h hx
   ·cases h
  ·cases h
 ·cases h
def Me (tmps : Array Value) : ResultVar → Sem Value
 | .tmp t => pure (tmps.getD t undef)
 | .cell a t => do loadVar t (← asAddr (tmps.getD a undef))
theorem PL {w : World} {g : Gh} {S : Ae} {e : Af} {a : Act} (hw : WF w g S) (he : Cv w g e a) : ∀ (rs : List ResultVar) (vs : List AV), CM P rs e S = some vs →
  ∃ cvs : List Value, (rs.mapM (Me a.tmps)).run P w = .ok cvs w ∧ cvs.length = vs.length ∧
   ∀ (j : Nat) u v, vs[j]? = some u → cvs[j]? = some v → Rel w g u v
 | [], vs, h => by
  cases h
  exact ⟨[], by simp, rfl, by simp⟩
 | .tmp t :: rest, vs, h => by
  simp only [CM] at h;obtain ⟨vs', h1, rfl⟩ := Option.map_eq_some_iff.1 h;obtain ⟨cvs, h2, h3, h4⟩ := PL hw he rest vs' h1;refine ⟨a.tmps.getD t undef :: cvs, by simp only [List.mapM_cons, Sem.run_bind, Me, Sem.run_pure, Result.andThen_ok, h2], by simp [h3], fun j u v hu hv => ?_⟩
  cases j with
  | zero =>
   simp only [List.getElem?_cons_zero, Option.some.injEq] at hu hv
   rw [← hu, ← hv]; exact he t
  | succ j => exact h4 j u v (by simpa using hu) (by simpa using hv)
 | .cell x t :: rest, vs, h => by
  simp only [CM] at h;split at h
  ·rename_i v' vs' h0 h1
   cases h
   obtain ⟨cvs, h2, h3, h4⟩ := PL hw he rest vs' h1;obtain ⟨ad, cv, h5, h6, h7⟩ := Zfu hw (he x) h0;refine ⟨cv :: cvs, by simp only [List.mapM_cons, Sem.run_bind, Me, h5, asAddr, Sem.run_pure, Result.andThen_ok, h6, h2], by simp [h3], fun j u v hu hv => ?_⟩
   cases j with
   | zero => simp at hu hv; rw [← hu, ← hv]; exact h7
   | succ j => exact h4 j u v (by simpa using hu) (by simpa using hv)
  ·cases h
theorem Zaw {w : World} {g : Gh} {S : Ae} {e : Af} {a : Act} (hw : WF w g S) (he : Cv w g e a) {fn : Func} {vs : List AV} (h : CM P fn.results.toList e S = some vs) :
  ∃ cv, (results fn a.tmps).run P w = .ok cv w ∧ Rel w g (Dh vs) cv := by
 obtain ⟨cvs, h1, h2, h3⟩ := PL hw he fn.results.toList vs h;have hrun : (results fn a.tmps).run P w = .ok (if h : cvs.toArray.size = 1 then cvs.toArray[0] else .tuple cvs.toArray) w := by
  have hf : results fn a.tmps = (do let vs ← fn.results.mapM (Me a.tmps); pure (if h : vs.size = 1 then vs[0] else .tuple vs)) := by
   unfold results;congr 1
  rw [hf, Sem.run_bind, Array.mapM_eq_mapM_toList, Sem.run_map, h1];rfl
 refine ⟨_, hrun, ?_⟩
 match vs, cvs, h2, h3 with
 | [u], [v], _, h3 => exact h3 0 u v rfl rfl
 | [], [], _, _ => exact .tup g [] #[] rfl (by simp)
 | u :: u' :: us, v :: v' :: cs, h2, h3 =>
  have : ¬ (v :: v' :: cs).toArray.size = 1 := by simp
  rw [dif_neg this];exact .tup g _ _ (by simpa using h2) (fun j u v hu hv => h3 j u v hu (by simpa using hv))
theorem Evo.sub {w0 w : World} {g0 g : Gh} {κ : List Nat} (h : Evo w0 g0 w g) (hn : κ.Nodup) (hin : ∀ i, i < κ.length → At κ i < g.nid) (hk : κ.take g0.nid = List.range g0.nid) : Evo w0 g0 w (g.sub κ) := by
 have hlen : g0.nid ≤ κ.length := by
  have := congrArg List.length hk;rw [List.length_take, List.length_range] at this;omega
 have hid : ∀ l, l < g0.nid → At κ l = l := by
  intro l hl
  have : κ[l]? = some l := by
   rw [← List.getElem?_take_of_lt hl, hk, List.getElem?_range hl]
  unfold At;rw [List.getD_eq_getElem?_getD, this]
  rfl
 refine ⟨⟨h.cell, h.G, hlen, fun l hl => ?_, h.map⟩, h.os, h.tape, h.output, h.size, h.old, fun l b hl hb hlt => ?_, h.Gold⟩
 ·have := h.keep l hl
  show g.buf (At κ l) = _ ∧ ((g.pl (At κ l) = _ ∧ g.wm (At κ l) = _ ∧ g.cap (At κ l) = _) ∨ (_ ∧ _ < g.wm (At κ l)))
  rw [hid l hl];exact this
 ·have hb' : g.own (At κ l) b := hb
  have hl' : l < κ.length := hl;obtain ⟨h1, h2⟩ := h.own (At κ l) b (hin l hl') hb' hlt;have h3 : At κ (At κ l) = At κ l := hid _ h1;have h4 := OQ hn (by omega) hl' h3
  rw [h4] at h1 h2;exact ⟨h1, h2⟩
theorem SubOk.lt {w : World} {g : Gh} {S S' : Ae} {κ : List Nat} (hs : SubOk κ S S') (h : WF w g S) : ∀ i, i < κ.length → At κ i < g.nid := by
 intro i hi;have hi' : i < S'.length := by rw [hs.len]; exact hi
 have h2 := (hs.ok i _ (List.getElem?_eq_getElem hi')).2
 rw [h.nid];exact (List.getElem?_eq_some_iff.1 h2).1
theorem Le.aside {w : World} {g : Gh} {b : Nat} {D : Option (List Deferred)} (h : w.heap[b]? = some (.deferred D)) (ob : Obj) : Le w g { w with heap := w.heap.setIfInBounds b ob } g := by
 have hne : ∀ {b' o : Nat} {v : Value}, w.cell? ⟨b', o, none⟩ = some v → b' ≠ b := fun hv e => by
  subst e;simp [World.cell?, h] at hv
 refine ⟨fun b' o v hb hv => ?_, fun _ _ _ h _ => h, Nat.le_refl _, fun _ _ => ⟨rfl, .inl ⟨rfl, rfl, rfl⟩⟩, fun b' me c hg hm => ⟨hg, (Gi (fun e => by subst e; rw [h] at hm; cases hm)).trans hm⟩⟩
 rw [World.cell?_of_block (w := w) (Gi (hne hv))]
 exact hv
theorem WF.aside {w : World} {g : Gh} {S : Ae} {b : Nat} {D : Option (List Deferred)} (hw : WF w g S) (h : w.heap[b]? = some (.deferred D)) (hno : ∀ l, l < g.nid → ¬ g.own l b) (ob : Obj) : WF { w with heap := w.heap.setIfInBounds b ob } g S := by
 have hle := Le.aside (g := g) h ob;refine ⟨hw.nid, fun l o hl => ?_, hw.disj, fun l b' hl hb => ?_, hw.tab.le hle⟩
 ·have hlt : l < g.nid := by rw [hw.nid]; exact (List.getElem?_eq_some_iff.1 hl).1
  exact (hw.obj l o hl).keep hle rfl rfl rfl rfl rfl (fun _ _ => rfl) (fun b' hb => Gi fun e => hno l hlt (by rw [← e]; exact hb))
 ·have := hw.lt l b' hl hb
  simpa using this
theorem Th {fn : Func} {R : Ending → World → Prop} {w0 : World} {g0 g : Gh} {e : Af} {S : Ae} {a : Act} : ∀ (D : List Deferred) (w : World), WF w g S → Cv w g e a → EvD w0 g0 w g D →
  (∀ w', WF w' g S → Cv w' g e a → Evo w0 g0 w' g → ∃ v, (results fn a.tmps).run P w' = .ok v w' ∧ R (.returned v) w') → LeavesInM (wR none) 0 P fn a.tmps R D .returning w
 | [], w, hw, he, hD, h => h w hw he hD.toEvo
 | d :: D, w, hw, he, hD, h => by
  obtain ⟨b, h1, h2, h3, h4, h5⟩ := hD.defs d (by simp)
  have hle := Le.aside (g := g) h4 (.deferred none);refine ⟨by simp, .inl ⟨b, w.putObj b (.deferred none), h1, run_takeDeferred h4, Th D _ (hw.aside h4 h5 _) (fun t => (he t).le hle) ⟨⟨hD.toLe.trans hle, hD.os, hD.tape, hD.output, by simpa [World.putObj] using hD.size, fun b' hb hn => (Gi (fun e => by omega)).trans (hD.old b' hb hn), hD.own, hD.Gold⟩, fun d' hd' => ?_, (by have := hD.nodup; simp only [List.map_cons, List.nodup_cons] at this; exact this.2)⟩ h⟩⟩
  obtain ⟨b', k1, k2, k3, k4, k5⟩ := hD.defs d' (by simp [hd'])
  have hne : b' ≠ b := fun e => by
   have := hD.nodup;simp only [List.map_cons, List.nodup_cons] at this;exact this.1 (List.mem_map.2 ⟨d', hd', by rw [k1, h1, e]⟩)
  exact ⟨b', k1, k2, by simpa [World.putObj] using k3, (Gi hne).trans k4, k5⟩
theorem AC.of_wp {f : FuncId} {fn : Func} {c : Code} {args : List AV} {S S' : Ae} {v : AV} (hf : P.funcs[f]? = some fn) (hb : fn.body = some c) (hname : fn.name ≠ "runtime.NumGoroutine") (hn : args.length ≤ fn.ntmps)
  (h : ∀ (w : World) (g : Gh) (a : Act), g.nid = S.length → AP fn.ntmps w g (Ci args) S a w → c.wpIn (wR none) 0 P (Eo fn.ntmps w g (C6 P fn.results.toList S.length v S')) a w) : AC P f args S v S' := by
 refine ⟨by simp [Iy, hf, hb, hname], fun w g cargs hw hargs => ?_⟩
 refine (callsIn_wide (n := 0)).1 (callsIn_of_wp_marks hf hb trivial ?_)
 have hc : AP fn.ntmps w g (Ci args) S { tmps := cargs ++ Array.replicate (fn.ntmps - cargs.size) undef, defers := [] } w := by
  refine ⟨by simp [hargs.1]; omega, trivial, g, hw, fun t => ?_, .none (Evo.refl w g)⟩
  show Rel w g (args.getD t .junk) ((cargs ++ Array.replicate (fn.ntmps - cargs.size) undef).getD t undef)
  rw [List.getD_eq_getElem?_getD]
  cases ht : args[t]? with
  | none => exact .junk _ _
  | some u =>
   have hlt : t < cargs.size := by rw [hargs.1]; exact (List.getElem?_eq_some_iff.1 ht).1
   have h1 : cargs[t]? = some cargs[t] := Array.getElem?_eq_getElem hlt
   rw [Array.getD_eq_getD_getElem?, Array.getElem?_append_left hlt, h1]
   exact hargs.2 t u _ ht h1
 refine Go.wpIn_mono (h w g _ hw.nid hc) ?_
 have fin : ∀ a' w' e1 S1, AP fn.ntmps w g e1 S1 a' w' → Fin P fn.results.toList S.length v S' e1 S1 → LeavesInM (wR none) 0 P fn a'.tmps (fun r w' => ∃ cv' g', r = .returned cv' ∧ WF w' g' S' ∧ Rel w' g' v cv' ∧ Evo w g w' g') a'.defers .returning w' := by
  rintro a' w' e0 S0 hc0 ⟨e1, S1, vs, κ, k0, k1, k2, k3, k4, k5⟩
  obtain ⟨_, _, g1, h3, h4, h5⟩ := k0 fn.ntmps w g a' w' hw.nid hc0;refine Th a'.defers w' h3 h4 h5 fun w' h3 h4 h5 => ?_
  obtain ⟨cv, r1, r2⟩ := Zaw h3 h4 k1;refine ⟨cv, r1, cv, g1.sub κ, rfl, h3.sub k2, ?_, h5.sub k2.nodup (k2.lt h3) (by rw [hw.nid]; exact k3)⟩
  rcases k5 with k5 | k5
  ·rw [k5] at r2
   exact Rel.unren (FY w' g1 κ) r2 k4
  ·have r3 := r2.wk
   rw [k5] at r3;exact Rel.unren (FY w' g1 κ) r3 k4
 intro ex a' w' hq;cases ex with
 | normal => obtain ⟨e1, S1, hc1, h1⟩ := hq; exact fin a' w' e1 S1 hc1 h1
 | ret => obtain ⟨e1, S1, hc1, h1⟩ := hq; exact fin a' w' e1 S1 hc1 h1
 | exit id => obtain ⟨e1, S1, hc1, h1⟩ := hq; exact h1.elim
 | _ => exact hq.elim
theorem AC.enter {f : FuncId} {fn : Func} {c : Code} {args : List AV} {S S' : Ae} {v : AV} (pf rf : List FuncId) (hf : P.funcs[f]? = some fn) (hb : fn.body = some c) (hname : fn.name ≠ "runtime.NumGoroutine") (hm : P.follows .mixedOrders = true)
  (hn : args.length ≤ fn.ntmps) (hok : DV P pf rf fn.ntmps c = true) (h : AW P pf rf S.length (C7 c) (C6 P fn.results.toList S.length v S') (Ci args) S) : AC P f args S v S' :=
 AC.of_wp hf hb hname hn fun w g a hg hc => Xb none (.inl rfl) hm hg _ (Ci args) S a w hok hc h
theorem AC.enterN {f : FuncId} {fn : Func} {c : Code} {args : List AV} {S S' : Ae} {v : AV} (N : Nat) (pf rf : List FuncId) (hf : P.funcs[f]? = some fn) (hb : fn.body = some c) (hname : fn.name ≠ "runtime.NumGoroutine") (hm : P.follows .mixedOrders = true)
  (hn : args.length ≤ fn.ntmps) (hok : DV P pf rf fn.ntmps c = true) (hN : fn.ntmps = N) (h : AW P pf rf S.length (B4 (some N) c) (C6 P fn.results.toList S.length v S') (Ci args) S) : AC P f args S v S' :=
 AC.of_wp hf hb hname hn fun w g a hg hc => W8 (some N) (fun _ e => by cases e; exact hN.symm) none hm hg c _ (Ci args) S a w hok (.inl rfl) hc h
end
end Pe
namespace Pe
open Go Go.RowKit
variable [Tab]
def KN (v : AV) (X Y : Prop) : Prop :=
 match v with
 | .bo b => C5 b X Y
 | _ => False
@[congr] theorem Zhq {v u : AV} (X Y : Prop) (h : v = u) : KN v X Y = KN u X Y := by rw [h]
theorem Vn (b : Bool) (X Y : Prop) : KN (.bo b) X Y = C5 b X Y := rfl
def Jn (P : Program) (pf rf : List FuncId) (t : Nat) (v : AV) (args : List AV) (S : Ae) (K : AV → Ae → Prop) : Prop :=
 match v with
 | .fn (.func f) fa ca => BL (PV P pf rf (.tmp t) f (fa ++ args ++ ca) S) K
 | .fn (.yield b) fa [] => BL (Ni P pf rf t b (fa ++ args) S) K
 | _ => False
@[congr] theorem Zg9 {P : Program} {pf rf : List FuncId} {t : Nat} {v u : AV} (args : List AV) (S : Ae) (K : AV → Ae → Prop) (h : v = u) : Jn P pf rf t v args S K = Jn P pf rf t u args S K := by rw [h]
theorem T1 (P : Program) (pf rf : List FuncId) (t : Nat) (f : FuncId) (fa ca args : List AV) (S : Ae) (K : AV → Ae → Prop) : Jn P pf rf t (.fn (.func f) fa ca) args S K =
  BL (if pf.contains (t + 1000000) then JG P f (fa ++ args ++ ca) S else if rf.contains (t + 1000000) then IM P f (fa ++ args ++ ca) S else EY P pf rf f (fa ++ args ++ ca) S) K := rfl
theorem T0 (P : Program) (pf rf : List FuncId) (t b : Nat) (args : List AV) (S : Ae) (K : AV → Ae → Prop) : Jn P pf rf t (.fn (.yield b) [] []) args S K = BL (Ni P pf rf t b args S) K := rfl
def K3 (P : Program) (pf rf : List FuncId) (N0 : Nat) (c : CC) (Q : AX → Af → Ae → Prop) (e : Af) (S : Ae) : Prop := AW P pf rf N0 c Q e S
def PS (P : Program) (pf rf : List FuncId) (l : List AO) (e : Af) (S : Ae) (K : Af → Ae → Prop) : Prop := Bh P pf rf l e S K
def PT (P : Program) (pf rf : List FuncId) (op : Op) (e : Af) (S : Ae) (K : AV → Ae → Prop) : Prop := Ba P pf rf op e S K
def Iv (k : Kd) (X Y : Unit → Prop) : Prop :=
 match k with
 | .bytes => X ()
 | _ => Y ()
@[congr] theorem Zhj {k k' : Kd} (X Y : Unit → Prop) (h : k = k') : Iv k X Y = Iv k' X Y := by rw [h]
theorem Vm (X Y : Unit → Prop) : Iv .bytes X Y = X () := rfl
theorem Vl (k : IntKind) (X Y : Unit → Prop) : Iv (.int k) X Y = Y () := rfl
theorem Vk (X Y : Unit → Prop) : Iv .str X Y = Y () := rfl
def CN (P : Program) (pf rf : List FuncId) (d : Option Nat) (rest : List AO) (e : Af) (K : Af → Ae → Prop) : AV → Ae → Prop := fun v S' => Bh P pf rf rest (put e d v) S' K
def Db (x : Option AV) (K : AV → Ae → Prop) (S : Ae) : Prop := BB x fun v => K v S
def M4 (x : Option Ae) (K : AV → Ae → Prop) : Prop := BB x fun S' => K .junk S'
def V5 (x : Option (List AV)) (K : AV → Ae → Prop) (S : Ae) : Prop := BB x fun cs => K (.ptr S.length 0) (S ++ [.cells cs])
def JB (x : Option (AV × Ae)) (K : AV → Ae → Prop) : Prop := BB x fun r => K r.1 r.2
def V3 (x : Option Unit) (K : AV → Ae → Prop) (S : Ae) : Prop := BB x fun _ => K (.mp S.length) (S ++ [.map []])
def TM (x : Option Bool) (A B : Prop) : Prop := BB x fun b => C5 b A B
theorem VX (v : AV) (K : AV → Ae → Prop) (S : Ae) : Db (some v) K S = K v S := rfl
theorem VY (S' : Ae) (K : AV → Ae → Prop) : M4 (some S') K = K .junk S' := rfl
def VW (x : Option (List AV)) (t : TypeId) (K : AV → Ae → Prop) (S : Ae) : Prop := BB x fun z => K (.ptr S.length 0) (S ++ [Fu t z])
theorem VV (z : List AV) (t : TypeId) (K : AV → Ae → Prop) (S : Ae) : VW (some z) t K S = K (.ptr S.length 0) (S ++ [Fu t z]) := rfl
theorem V4 (cs : List AV) (K : AV → Ae → Prop) (S : Ae) : V5 (some cs) K S = K (.ptr S.length 0) (S ++ [.cells cs]) := rfl
theorem VZ (v : AV) (S' : Ae) (K : AV → Ae → Prop) : JB (some (v, S')) K = K v S' := rfl
theorem V2 (K : AV → Ae → Prop) (S : Ae) : V3 (some ()) K S = K (.mp S.length) (S ++ [.map []]) := rfl
theorem TL (b : Bool) (A B : Prop) : TM (some b) A B = C5 b A B := rfl
theorem G6 {x : Option AV} {K : AV → Ae → Prop} {S : Ae} (v : AV) (h : x = some v) (h' : K v S) : Db x K S := by rw [h]; exact h'
def So (v x y : AV) (K : AV → Ae → Prop) (S : Ae) : Prop :=
 match v with
 | .bo t => K (if t then x else y) S
 | _ => False
theorem Sn (b : Bool) (x y : AV) (K : AV → Ae → Prop) (S : Ae) : So (.bo b) x y K S = K (if b then x else y) S := rfl
def Zbz (v x y : AV) (K : AV → Prop) : Prop :=
 match v with
 | .bo t => K (if t then x else y)
 | _ => False
section
variable (P : Program) (pf rf : List FuncId) (N0 : Nat) (Q : AX → Af → Ae → Prop) (next : Af → Ae → Prop) (e : Af) (S : Ae) (K : AV → Ae → Prop)
theorem W5 : AW P pf rf N0 .skip Q e S = Q .norm e S := rfl
theorem W7 (l : List AO) : AW P pf rf N0 (.reg l) Q e S = Bh P pf rf l e S (Q .norm) := rfl
theorem IQ (a b : CC) : AW P pf rf N0 (.seq a b) Q e S = AW P pf rf N0 a (Ec Q (AW P pf rf N0 b Q)) e S := rfl
theorem Xe (c : Operand) (t f : CC) : AW P pf rf N0 (.cond c t f) Q e S = KN (ev e c) (K3 P pf rf N0 t Q e S) (K3 P pf rf N0 f Q e S) := rfl
theorem Nk (id : Nat) (b : CC) : AW P pf rf N0 (.block id b) Q e S = AW P pf rf N0 b (EA id Q) e S := rfl
theorem Xc (b : CC) : AW P pf rf N0 (.loop b) Q e S = JH N0 (AW P pf rf N0 b) Q e S := rfl
theorem Xd (id : Nat) : AW P pf rf N0 (.exit id) Q e S = Q (.exit id) e S := rfl
theorem W6 : AW P pf rf N0 .ret Q e S = Q .ret e S := rfl
theorem QB : Ec Q next .norm e S = next e S := rfl
theorem QA : Ec Q next .ret e S = Q .ret e S := rfl
theorem QC (id : Nat) : Ec Q next (.exit id) e S = Q (.exit id) e S := rfl
theorem VQ (id : Nat) : EA id Q .norm e S = Q .norm e S := rfl
theorem VP (id : Nat) : EA id Q .ret e S = Q .ret e S := rfl
theorem VO (id : Nat) : EA id Q (.exit id) e S = Q .norm e S := by simp [EA]
theorem VR (id i : Nat) : EA id Q (.exit i) e S = if i = id then Q .norm e S else Q (.exit i) e S := by
 show (if i = id then Q .norm else Q (.exit i)) e S = _
 split <;> rfl
theorem Xg (K : Af → Ae → Prop) : Bh P pf rf [] e S K = K e S := rfl
theorem Xi (d : Option Nat) (op : Op) (rest : List AO) (K : Af → Ae → Prop) : Bh P pf rf (⟨d, op, none⟩ :: rest) e S K = Ba P pf rf op e S (CN P pf rf d rest e K) := by
 show C5 true _ _ = _
 rw [Fe];rfl
theorem Xh (d : Option Nat) (op : Op) (gd : Option Nat × Bool) (rest : List AO) (K : Af → Ae → Prop) : Bh P pf rf (⟨d, op, some gd⟩ :: rest) e S K =
  TM (HL (some gd) e) (PT P pf rf op e S (CN P pf rf d rest e K)) (PS P pf rf rest (put e d (.tup [])) S K) := rfl
theorem Nj (c : CC) : K3 P pf rf N0 c Q e S = AW P pf rf N0 c Q e S := rfl
theorem Nl (l : List AO) (K : Af → Ae → Prop) : PS P pf rf l e S K = Bh P pf rf l e S K := rfl
theorem Nm (op : Op) : PT P pf rf op e S K = Ba P pf rf op e S K := rfl
theorem Tx (c : CC) (Y : Prop) : C5 true (K3 P pf rf N0 c Q e S) Y = AW P pf rf N0 c Q e S := Fe _ _
theorem Tz (c : CC) (X : Prop) : C5 false X (K3 P pf rf N0 c Q e S) = AW P pf rf N0 c Q e S := FJ _ _
theorem Ty (op : Op) (Y : Prop) : C5 true (PT P pf rf op e S K) Y = Ba P pf rf op e S K := Fe _ _
theorem TA (l : List AO) (K : Af → Ae → Prop) (X : Prop) : C5 false X (PS P pf rf l e S K) = Bh P pf rf l e S K := FJ _ _
theorem Xf (d : Option Nat) (rest : List AO) (K : Af → Ae → Prop) (v : AV) : CN P pf rf d rest e K v S = Bh P pf rf rest (put e d v) S K := rfl
theorem Xs (x : Operand) : Ba P pf rf (.move x) e S K = K (ev e x) S := rfl
theorem XP (x : Operand) : Ba P pf rf (.assign x) e S K = K (ev e x) S := rfl
theorem Xz (t : TypeId) (x : Operand) : Ba P pf rf (.load t x) e S K = Db (DW (AA P t) S (ev e x)) K S := rfl
theorem Xm (t : TypeId) (x y : Operand) : Ba P pf rf (.store t x y) e S K = M4 (He (AA P t) S (ev e x) (ev e y)) K := rfl
theorem XN (t : TypeId) (x : Operand) : Ba P pf rf (.box t x) e S K = V5 (if (ev e x).solid = true then some (ev e x).cells else none) K S := rfl
theorem XR (t : TypeId) : Ba P pf rf (.alloc t) e S K = VW (BE P t) t K S := rfl
theorem XA (t : TypeId) (n : Nat) (parts : Array (Nat × Operand)) : Ba P pf rf (.buildSlice t n parts) e S K = Db (IG P t n (parts.toList.map fun p => (p.1, ev e p.2))) K S := rfl
theorem Xx (t : TypeId) (x y : Operand) : Ba P pf rf (.makeSlice t x y) e S K = JB (Kf (HG P t (ev e x) (ev e y) S) (HE P t (ev e x) (ev e y) S)) K := rfl
theorem Xt (t : TypeId) (r : Option Operand) : Ba P pf rf (.makeMap t r) e S K = V3 (Mo ((D4 P t).isSome && IF (r.map (ev e)))) K S := rfl
theorem XC (t : TypeId) (m k v : Operand) : Ba P pf rf (.insert t m k v) e S K = M4 (FT (D4 P t) S (ev e m) (ev e k) (ev e v)) K := rfl
theorem Xw (t : TypeId) (m k v : Operand) : Ba P pf rf (.mapUpdate t m k v) e S K = M4 (FT (D4 P t) S (ev e m) (ev e k) (ev e v)) K := rfl
theorem Xy (t : TypeId) (x k : Operand) (b : Bool) : Ba P pf rf (.lookup t x k b) e S K = Db (Fk (D4 P t) S (ev e x) (ev e k) b) K S := rfl
theorem Xo (t : TypeId) (x : Operand) : Ba P pf rf (.range t x) e S K = JB (Hj (AS P t) S (ev e x)) K := rfl
theorem Xr (x : Operand) (b : Bool) : Ba P pf rf (.next x b) e S K = JB (Hz S (ev e x) b) K := rfl
theorem WI (cs : List AV) : AY cs 0 [] = cs := by simp [AY]
theorem WE (c u : AV) (cs us : List AV) : AY (c :: cs) 0 (u :: us) = u :: AY cs 0 us := by simp [AY, Nat.add_comm]
theorem WG (c : AV) (cs us : List AV) (n : Nat) : AY (c :: cs) (n + 1) us = c :: AY cs n us := by simp [AY, Nat.succ_add]
theorem Zfr {α : Type} (f : α → AV) (l : List α) (i : Nat) (x : α) (h : i < l.length) : AY (l.map f) i [f x] = (l.set i x).map f := by
 simp only [AY, List.length_cons, List.length_nil];rw [List.set_eq_take_append_cons_drop, if_pos h];simp
theorem WH (l : List (List UInt8)) (i : Nat) (x : List UInt8) (h : i < l.length) : AY (l.map .st) i [.st x] = (l.set i x).map .st := Zfr .st l i x h
theorem XL (s d : TypeId) (x : Operand) : Ba P pf rf (.convert s d x) e S K = Iv (AS P d) (fun _ => JB (IJ P s d (ev e x) S) K) (fun _ => Db (Gr P s d (ev e x)) K S) := by
 show (match AS P d with | .bytes => _ | _ => _) = _
 unfold Iv;split <;> rfl
theorem XG (f : FuncId) (args : Array Operand) (ts : Array TypeId) : Ba P pf rf (.call { callee := .value (.func f), args := args, argTypes := ts }) e S K = BL (EY P pf rf f (args.toList.map (ev e)) S) K := by
 show BL (EY P pf rf f ([] ++ args.toList.map (ev e) ++ []) S) K = _
 rw [List.nil_append, List.append_nil]
theorem Xl (t : Nat) (args : Array Operand) (ts : Array TypeId) : Ba P pf rf (.call { callee := .value (.tmp t), args := args, argTypes := ts }) e S K = Jn P pf rf t (e t) (args.toList.map (ev e)) S K := by
 unfold Ba Jn;rfl
theorem XQ (x y : Operand) (t u : TypeId) : Ba P pf rf (.call { callee := .builtin .append, args := #[x, y], argTypes := #[t, u] }) e S K = JB (Gs P t u S (ev e x) (ev e y)) K := rfl
theorem XB (args : Array Operand) (ts : Array TypeId) : Ba P pf rf (.call { callee := .builtin .len, args := args, argTypes := ts }) e S K = Db (Fo P .len ts (args.toList.map (ev e))) K S := rfl
theorem Xu (args : Array Operand) (ts : Array TypeId) : Ba P pf rf (.call { callee := .builtin .min, args := args, argTypes := ts }) e S K = Db (Fo P .min ts (args.toList.map (ev e))) K S := rfl
theorem Xv (args : Array Operand) (ts : Array TypeId) : Ba P pf rf (.call { callee := .builtin .max, args := args, argTypes := ts }) e S K = Db (Fo P .max ts (args.toList.map (ev e))) K S := rfl
theorem Xp (c x y : Operand) : Ba P pf rf (.pick c x y) e S K = So (ev e c) (ev e x) (ev e y) K S := rfl
theorem Xq (x : Operand) : Ba P pf rf (.nilCheck x) e S K = Db (Hu (ev e x)) K S := rfl
theorem XO (op : BinOp) (t t' : TypeId) (x y : Operand) : Ba P pf rf (.binOp op t x y t') e S K = Db (EX P op t e x y) K S := rfl
theorem WL (op : BinOp) (t : TypeId) (x : Operand) (y : Nat) : EX P op t e x (.tmp y) = DX P op t (ev e x) (e y) := rfl
theorem WR (op : BinOp) (t : TypeId) (x : Operand) (k : IntKind) (n : Int) : EX P op t e x (.const (.int k n)) = DX P op t (ev e x) (.it k n) := rfl
theorem WM (op : BinOp) (t : TypeId) (x : Operand) (a : Array UInt8) : EX P op t e x (.const (.string ⟨a⟩)) = DX P op t (ev e x) (.st a.toList) := rfl
theorem WT (op : BinOp) (t : TypeId) (x : Operand) (b : Bool) : EX P op t e x (.const (.bool b)) = DX P op t (ev e x) (.bo b) := rfl
theorem WU (op : BinOp) (t : TypeId) (x : Operand) (a : Array Value) : EX P op t e x (.const (.agg a)) = DX P op t (ev e x) (ev e (.const (.agg a))) := rfl
theorem WN (op : BinOp) (t : TypeId) (x : Operand) (a : Option Addr) : EX P op t e x (.const (.pointer a)) = DX P op t (ev e x) (ev e (.const (.pointer a))) := rfl
theorem WQ (op : BinOp) (t : TypeId) (x : Operand) (a : Option Nat) : EX P op t e x (.const (.map a)) = DX P op t (ev e x) (ev e (.const (.map a))) := rfl
theorem WP (op : BinOp) (t : TypeId) (x : Operand) : EX P op t e x (.const .nilFunc) = DX P op t (ev e x) (ev e (.const .nilFunc)) := rfl
theorem WO (op : BinOp) (t : TypeId) (x : Operand) (n c : Nat) : EX P op t e x (.const (.slice none n c)) = if (B2 P t).isSome = true then Hq op (ev e x) else none := rfl
theorem Xk (op : UnOp) (t : TypeId) (x : Operand) : Ba P pf rf (.unOp op t x) e S K = Db (Hd op (ev e x)) K S := rfl
theorem XH (f : Fn) (a b : Array Operand) : Ba P pf rf (.makeFunc f a b) e S K = K (.fn f (a.toList.map (ev e)) (b.toList.map (ev e))) S := rfl
theorem Xn (t : TypeId) (x : Operand) (lo hi mx : Option Operand) : Ba P pf rf (.slice t x lo hi mx) e S K = Db (Hg P t (ev e x) (lo.map (ev e)) (hi.map (ev e)) (mx.map (ev e))) K S := rfl
theorem XI (t : TypeId) (x : Operand) (f : Nat) : Ba P pf rf (.fieldAddr t x f) e S K = Db (HM (Al P t f) (ev e x)) K S := rfl
theorem XJ (t : TypeId) (x : Operand) (f : Nat) : Ba P pf rf (.field t x f) e S K = Db (HQ (Al P t f) (ev e x)) K S := rfl
theorem XE (t : TypeId) (x i : Operand) : Ba P pf rf (.indexAddr t x i) e S K = Db (HH P t (ev e x) (ev e i)) K S := rfl
theorem XF (t : TypeId) (x i : Operand) : Ba P pf rf (.index t x i) e S K = Db (HJ P t (ev e x) (ev e i)) K S := rfl
theorem XK (t : Operand) (i : Nat) : Ba P pf rf (.extract t i) e S K = Db (EB P e (.extract t i)) K S := rfl
theorem XM (t : TypeId) (parts : Array (Nat × Operand)) : Ba P pf rf (.build t parts) e S K = Db (EB P e (.build t parts)) K S := rfl
theorem Sp (b : Bool) (x y : AV) (K : AV → Prop) : Zbz (.bo b) x y K = K (if b then x else y) := rfl
theorem Ur (t : Nat) : ev e (.tmp t) = e t := rfl
theorem Uu (v : Value) : ev e (.const v) = D6 v := rfl
theorem Us (g : Nat) : ev e (.global g) = .ot (.pointer (some ⟨g, 0, none⟩)) := rfl
theorem Ut (f : FuncId) : ev e (.func f) = .fn (.func f) [] [] := rfl
theorem Mi (d : Nat) (v : AV) : put e (some d) v = upd e d v := rfl
theorem R8 (v : AV) : put e none v = e := rfl
theorem Lk (d t : Nat) (v : AV) : upd e d v t = if t = d then v else e t := rfl
theorem M9 (a : AV) (l : List AV) : Ci (a :: l) 0 = a := rfl
theorem Na (a : AV) (l : List AV) (n : Nat) : Ci (a :: l) (n + 1) = Ci l n := rfl
theorem Vg (b : Bool) : D6 (.bool b) = .bo b := rfl
theorem Ve (k : IntKind) (n : Int) : D6 (.int k n) = .it k n := rfl
theorem Va (a : Array UInt8) : D6 (.string ⟨a⟩) = .st a.toList := rfl
theorem Vc : D6 (.slice none 0 0) = .sl .full [] := rfl
theorem Vb : D6 (.pointer none) = .ot (.pointer none) := rfl
theorem Vf : D6 .nilFunc = .ot .nilFunc := rfl
theorem Vd : D6 (.map none) = .ot (.map none) := rfl
theorem Vh (arr : Array Value) : D6 (.agg arr) = if arr.toList.all (·.oneCell') then .agg (arr.toList.map CJ) else .junk := rfl
end
theorem Au {P : Program} {pf rf : List FuncId} {e : Af} {C : AV → Ae → Prop} {d : Option Nat} {rest : List AO} {K : Af → Ae → Prop} {v : AV} {S' : Ae} (h : C v S') (h' : Bh P pf rf rest (put e d v) S' K) : BL C (CN P pf rf d rest e K) := ⟨v, S', h, h'⟩
theorem DF {P : Program} {pf rf : List FuncId} {e : Af} {f : FuncId} {args args' : List AV} {S : Ae} {d : Option Nat} {rest : List AO} {K : Af → Ae → Prop} {v : AV} (h : AC P f args' [] v []) (ha : args.map AV.wk = args') (hk : args'.all (AV.ok 0) = true) (hv : v.ok 0 = true)
  (h' : Bh P pf rf rest (put e d v) S K) : BL (JG P f args S) (CN P pf rf d rest e K) := by
 subst ha;exact ⟨v, S, ⟨h, hk, hv, rfl⟩, h'⟩
theorem Ay.refl (N0 : Nat) (e : Af) (S : Ae) : Ay N0 e S e S := fun _ _ _ _ _ _ h => h
theorem Rel.own_full {w : World} {g : Gh} {es : List AV} {cv : Value} {l : Nat} (h : Rel w g (.sl .full es) cv) (hl : l < g.nid) (hb : g.buf l = true) (hwm : g.wm l = es.length) : Rel w g (.sl (.own l) es) cv := by
 cases h with
 | sl _ _ _ A c sz cu hc hcm hsz hA h1 hr hm => exact .sl _ _ es A c sz cu hc hcm hsz hA h1 hr ⟨hl, hb, by omega, .inr (.inl hm)⟩
theorem Ay.reserve (N0 : Nat) {e : Af} {S : Ae} (d : Nat) {es : List AV} (hd : e d = .sl .full es) (ty : TypeId) (sz : Nat) : Ay N0 e S (upd e d (.sl (.own S.length) es)) (S ++ [.buf es.length ty sz]) := by
 rintro N w0 g0 a w hn ⟨h1, h2, g, h3, h4, h5⟩
 obtain ⟨g', h6, h7, h8, h9, h10⟩ := h3.reserve es.length ty sz;refine ⟨h1, h2, g', h6, fun t => ?_, h5.trans h7⟩
 have ht := (h4 t).le h7.toLe;by_cases htd : t = d
 ·subst htd
  rw [upd_same];rw [hd] at ht;refine ht.own_full ?_ ?_ ?_
  ·rw [h8, ← h3.nid]; omega
  ·rw [← h3.nid]; exact h9
  ·rw [← h3.nid]; exact h10
 ·rw [upd_ne e htd]; exact ht
section
variable {P : Program}
theorem QN (S : Ae) : SubOk [] S [] := ⟨List.nodup_nil, rfl, fun i o hi => by simp at hi⟩
theorem Ug {rs : List ResultVar} {v : AV} {e : Af} {S : Ae} {vs : List AV} (h : CM P rs e S = some vs) (hk : v.ok 0 = true) (hv : Dh vs = v ∨ (Dh vs).wk = v) : Fin P rs 0 v [] e S := by
 refine ⟨e, S, vs, [], Ay.refl 0 e S, h, QN S, rfl, hk, ?_⟩
 rw [Cn hk (fun i hi => absurd hi (Nat.not_lt_zero _))]
 exact hv
theorem Ct {rs : List ResultVar} {v : AV} {e : Af} {S : Ae} {vs : List AV} (h : CM P rs e S = some vs) (hk : v.ok 0 = true) (hv : Dh vs = v) : C6 P rs 0 v [] .ret e S := Ug h hk (.inl hv)
theorem ZdE {rs : List ResultVar} {v : AV} {e : Af} {S : Ae} {vs : List AV} (h : CM P rs e S = some vs) (hk : v.ok 0 = true) (hv : (Dh vs).wk = v) : C6 P rs 0 v [] .ret e S := Ug h hk (.inr hv)
theorem Aq {rs : List ResultVar} {v : AV} {e : Af} {S S' : Ae} {vs : List AV} {N0 : Nat} (κ : List Nat) (h : CM P rs e S = some vs) (hs : SubOk κ S S') (hn : κ.take N0 = List.range N0) (hk : v.ok κ.length = true) (hv : Dh vs = v.ren (At κ)) : C6 P rs N0 v S' .ret e S :=
 ⟨e, S, vs, κ, Ay.refl N0 e S, h, hs, hn, hk, .inl hv⟩
theorem KG {rs : List ResultVar} {v : AV} {e : Af} {S S' : Ae} {vs : List AV} {N0 : Nat} (e1 : Af) (S1 : Ae) (hw : Ay N0 e S e1 S1) (κ : List Nat) (h : CM P rs e1 S1 = some vs) (hs : SubOk κ S1 S') (hn : κ.take N0 = List.range N0) (hk : v.ok κ.length = true) (hv : Dh vs = v.ren (At κ)) : C6 P rs N0 v S' .ret e S :=
 ⟨e1, S1, vs, κ, hw, h, hs, hn, hk, .inl hv⟩
theorem QM (k k' : Nat) {S : Ae} {o o' : SObj} (hne : k ≠ k') (ho : o.ok 2 = true) (ho' : o'.ok 2 = true) (h : S[k]? = some (o.ren (At [k, k']))) (h' : S[k']? = some (o'.ren (At [k, k']))) : SubOk [k, k'] S [o, o'] := ⟨by simp [hne], rfl, fun i o1 hi => by
  match i, hi with
  | 0, hi => cases hi; exact ⟨ho, h⟩
  | 1, hi => cases hi; exact ⟨ho', h'⟩⟩
theorem EI (k : Nat) {S : Ae} {o : SObj} (ho : o.ok 1 = true) (h : S[k]? = some (o.ren (At [k]))) : SubOk [k] S [o] := ⟨by simp, rfl, fun i o1 hi => by
  cases i with
  | zero => cases hi; exact ⟨ho, h⟩
  | succ i => simp at hi⟩
theorem AC.fresh1 {f : FuncId} {args : List AV} {v : AV} {o : SObj} (h : AC P f args [] v [o]) (ha : args.all (AV.ok 0) = true) (hv : v.ok 1 = true) (ho : o.ok 1 = true) (T : Ae) :
  AC P f args T (v.ren (fun i => T.length + i)) (T ++ [o.ren (fun i => T.length + i)]) := by
 have := h.frame (T := T) [] ⟨List.nodup_nil, rfl, fun i o hi => by simp at hi⟩ ha hv (fun i o1 hi => by
  cases i with
  | zero => cases hi; exact ho
  | succ i => simp at hi)
 rw [Ew ha (fun v hv => Cn hv (fun i hi => absurd hi (Nat.not_lt_zero _)))] at this
 have e : ext [] T.length = fun i => T.length + i := by funext i; simp [ext]
 simpa [after, B6, e] using this
end
theorem AC.at1 {P : Program} {f : FuncId} {args : List AV} {v : AV} {o o' : SObj} {T : Ae} (h : AC P f args [o] v [o']) (l : Nat) (hl : T[l]? = some (o.ren (At [l]))) (ha : args.all (AV.ok 1) = true) (hv : v.ok 1 = true) (ho : o.ok 1 = true) (ho' : o'.ok 1 = true) :
  AC P f (args.map (AV.ren (At [l]))) T (v.ren (ext [l] T.length)) (T.set l (o'.ren (ext [l] T.length))) := by
 have := h.frame (T := T) [l] ⟨by simp, rfl, fun i o1 hi => by
  cases i with
  | zero => cases hi; exact ⟨ho, hl⟩
  | succ i => simp at hi⟩ ha hv (fun i o1 hi => by
  cases i with
  | zero => cases hi; exact ho'
  | succ i => simp at hi)
 simpa [after, B6] using this
theorem Bp {N0 : Nat} {B : (AX → Af → Ae → Prop) → Af → Ae → Prop} {Q : AX → Af → Ae → Prop} {e : Af} {S : Ae} (I : Nat → Af → Ae → Prop) (n : Nat) (h0 : I n e S)
  (h : ∀ n e S, I n e S → B (Ec Q (I8 N0 I n)) e S) : JH N0 B Q e S := ⟨I, ⟨n, e, S, Ay.refl N0 e S, h0⟩, h⟩
theorem Eg {N0 : Nat} {B : (AX → Af → Ae → Prop) → Af → Ae → Prop} {Q : AX → Af → Ae → Prop} {e : Af} {S : Ae} (I : Nat → Af → Ae → Prop) (n : Nat) (e' : Af) (S' : Ae) (hw : Ay N0 e S e' S') (h0 : I n e' S')
  (h : ∀ n e S, I n e S → B (Ec Q (I8 N0 I n)) e S) : JH N0 B Q e S := ⟨I, ⟨n, e', S', hw, h0⟩, h⟩
theorem AG {N0 : Nat} {I : Nat → Af → Ae → Prop} {n : Nat} {e : Af} {S : Ae} (n' : Nat) (hn : n' < n) (h : I n' e S) : I8 N0 I n e S := ⟨n', e, S, hn, Ay.refl N0 e S, h⟩
theorem N3 {N0 : Nat} {I : Nat → Af → Ae → Prop} {n : Nat} {e : Af} {S : Ae} (n' : Nat) (e' : Af) (S' : Ae) (hw : Ay N0 e S e' S') (hn : n' < n) (h : I n' e' S') : I8 N0 I n e S := ⟨n', e', S', hn, hw, h⟩
theorem Tw {α : Type} {c : Prop} [Decidable c] (x : α) (h : c) : (if c then some x else none) = some x := if_pos h
theorem FM {n b : Nat} (h : n * b ≤ 140737488355328) (h' : n ≤ 140737488355328) : CX n b = true := by simp [CX, h, h']
theorem dT {p : Prop} [Decidable p] (h : p) : decide p = true := decide_eq_true h
theorem dF {p : Prop} [Decidable p] (h : ¬ p) : decide p = false := decide_eq_false h
theorem V8 {a b : Int} (h : a = b) : (a == b) = true := by simp [h]
theorem Ea {a b : Int} (h : a ≠ b) : (a == b) = false := by simp [h]
theorem PA {a b : Int} (h : a ≠ b) : (a != b) = true := by simp [h]
theorem VN {a b : Int} (h : a = b) : (a != b) = false := by simp [h]
theorem V6 (b : Bool) : (b == true) = b := by cases b <;> rfl
theorem V7 (b : Bool) : (b == false) = !b := by cases b <;> rfl
theorem BN {α : Type} (sz : Nat) (f : α → AV) (h : ∀ a, (f a).cells.length = sz) (l : List α) : AE sz (l.map f) = true := by
 simp [AE, h]
theorem Ww (l : List (List UInt8)) : AE 1 (l.map .st) = true := BN 1 _ (fun _ => rfl) l
theorem Wv (l : List UInt8) : AE 1 (l.map u8) = true := BN 1 _ (fun _ => rfl) l
theorem Wz (sz : Nat) (l r : List AV) : AE sz (l ++ r) = (AE sz l && AE sz r) := by simp [AE]
theorem Wy (sz : Nat) (v : AV) (l : List AV) : AE sz (v :: l) = (v.cells.length == sz && AE sz l) := rfl
theorem Wx (sz : Nat) : AE sz [] = true := rfl
theorem wrap64 {n : Int} (h : -9223372036854775808 ≤ n) (h' : n ≤ 9223372036854775807) : IntKind.i64.wrap n = n := by rw [IntKind.wrap_i64]; omega
end Pe
namespace Pe
open Go Go.RowKit
variable [Tab]
theorem AC.ofBelow {P : Program} {f : FuncId} {args : List AV} {v : AV} (hcan : Iy P f = true)
  (h : ∀ (w : World) (g : Gh) (cargs : Array Value), JF w g → De w g args cargs → Calls P f cargs w fun r w' => ∃ cv, r = .returned cv ∧ (∀ g', Rel w' g' v cv) ∧ Below w.heap.size w w') : AC P f args [] v [] := by
 refine ⟨hcan, fun w g cargs hw hargs => ?_⟩
 refine (h w g cargs hw.tab hargs).mono ?_
 rintro r w' ⟨cv, rfl, h1, h2⟩
 exact ⟨cv, g, rfl, hw.below h2, h1 g, Evo.below g h2⟩
theorem Zb9 {w : World} {g : Gh} {v : AV} {cargs : Array Value} (h : De w g [v] cargs) : ∃ cv, cargs = #[cv] ∧ Rel w g v cv := by
 obtain ⟨h1, h2⟩ := h;have h0 : 0 < cargs.size := by rw [h1]; simp
 refine ⟨cargs[0], ?_, h2 0 v _ rfl (Array.getElem?_eq_getElem h0)⟩
 apply Array.ext
 ·simpa using h1
 ·intro i hi hi'
  have : i = 0 := by simp at h1; omega
  subst this;rfl
theorem Jh {w : World} {g : Gh} {l : List UInt8} {cargs : Array Value} (h : De w g [.st l] cargs) : cargs = #[.string ⟨l.toArray⟩] := by
 obtain ⟨cv, rfl, hr⟩ := Zb9 h;cases hr
 rfl
end Pe
namespace Pe
open Go
set_option maxRecDepth 100000
theorem K7 :
  (type_of% @W5) ∧
  (type_of% @W7) ∧
  (type_of% @IQ) ∧
  (type_of% @Xe) ∧
  (type_of% @Nk) ∧
  (type_of% @Xc) ∧
  (type_of% @Xd) ∧
  (type_of% @W6) ∧
  (type_of% @QB) ∧
  (type_of% @QA) ∧
  (type_of% @QC) ∧
  (type_of% @VQ) ∧
  (type_of% @VP) ∧
  (type_of% @VO) ∧
  (type_of% @VR) ∧
  (type_of% @Xg) ∧
  (type_of% @Xi) ∧
  (type_of% @Xf) ∧
  (type_of% @Xh) ∧
  (type_of% @Xs) ∧
  (type_of% @XP) ∧
  (type_of% @Xz) ∧
  (type_of% @Xm) ∧
  (type_of% @XN) ∧
  (type_of% @XR) ∧
  (type_of% @XA) ∧
  (type_of% @Xx) ∧
  (type_of% @XG) ∧
  (type_of% @Xl) ∧
  (type_of% @XQ) ∧
  (type_of% @XB) ∧
  (type_of% @Xu) ∧
  (type_of% @Xv) ∧
  (type_of% @Xp) ∧
  (type_of% @Xq) ∧
  (type_of% @XO) ∧
  (type_of% @WL) ∧
  (type_of% @WR) ∧
  (type_of% @WM) ∧
  (type_of% @WT) ∧
  (type_of% @WU) ∧
  (type_of% @WN) ∧
  (type_of% @WQ) ∧
  (type_of% @WP) ∧
  (type_of% @WO) ∧
  (type_of% @Xk) ∧
  (type_of% @XH) ∧
  (type_of% @Xn) ∧
  (type_of% @XI) ∧
  (type_of% @XJ) ∧
  (type_of% @XE) ∧
  (type_of% @XF) ∧
  (type_of% @XK) ∧
  (type_of% @XM) ∧
  (type_of% @XL) ∧
  (type_of% @Xt) ∧
  (type_of% @XC) ∧
  (type_of% @Xw) ∧
  (type_of% @Xy) ∧
  (type_of% @Xo) ∧
  (type_of% @Xr) ∧
  (type_of% @Ur) ∧
  (type_of% @Uu) ∧
  (type_of% @Us) ∧
  (type_of% @Ut) ∧
  (type_of% @Mi) ∧
  (type_of% @R8) ∧
  (type_of% @Lk) ∧
  (type_of% @M9) ∧
  (type_of% @Na) ∧
  (type_of% @Vg) ∧
  (type_of% @Ve) ∧
  (type_of% @Va) ∧
  (type_of% @Vc) ∧
  (type_of% @Vb) ∧
  (type_of% @Vf) ∧
  (type_of% @Vd) :=
 ⟨@W5, @W7, @IQ, @Xe, @Nk, @Xc, @Xd, @W6, @QB, @QA, @QC, @VQ, @VP, @VO, @VR, @Xg, @Xi, @Xf, @Xh, @Xs, @XP, @Xz, @Xm, @XN, @XR, @XA, @Xx, @XG, @Xl, @XQ, @XB, @Xu, @Xv, @Xp, @Xq, @XO, @WL, @WR, @WM, @WT, @WU, @WN, @WQ, @WP, @WO, @Xk, @XH, @Xn, @XI, @XJ, @XE, @XF, @XK, @XM, @XL, @Xt, @XC, @Xw, @Xy, @Xo, @Xr, @Ur, @Uu, @Us, @Ut, @Mi, @R8, @Lk, @M9, @Na, @Vg, @Ve, @Va, @Vc, @Vb, @Vf, @Vd⟩
theorem K8 :
  (type_of% @Vm) ∧
  (type_of% @Vl) ∧
  (type_of% @Vk) ∧
  (type_of% @Vh) ∧
  (type_of% @V0) ∧
  (type_of% @List.take_length.{0}) ∧
  (type_of% @WH) ∧
  (type_of% @WG) ∧
  (type_of% @WE) ∧
  (type_of% @WI) ∧
  (type_of% @SY) ∧
  (type_of% @false_and) ∧
  (type_of% @SD) ∧
  (type_of% @Sw) ∧
  (type_of% @Sv) ∧
  (type_of% @V1) ∧
  (type_of% @VX) ∧
  (type_of% @VY) ∧
  (type_of% @V4) ∧
  (type_of% @VV) ∧
  (type_of% @VZ) ∧
  (type_of% @V2) ∧
  (type_of% @TL) ∧
  (type_of% @Sn) ∧
  (type_of% @wrap64) ∧
  (type_of% @Tw) ∧
  (type_of% @FM) ∧
  (type_of% @V6) ∧
  (type_of% @V7) ∧
  (type_of% @dT) ∧
  (type_of% @dF) ∧
  (type_of% @V8) ∧
  (type_of% @Ea) ∧
  (type_of% @PA) ∧
  (type_of% @VN) ∧
  (type_of% @Tx) ∧
  (type_of% @Tz) ∧
  (type_of% @Ty) ∧
  (type_of% @TA) ∧
  (type_of% @Vn) ∧
  (type_of% @T1) ∧
  (type_of% @T0) ∧
  (type_of% @Sp) ∧
  (type_of% @Bool.or_true) ∧
  (type_of% @Bool.true_or) ∧
  (type_of% @Bool.or_false) ∧
  (type_of% @Bool.false_or) ∧
  (type_of% @decide_true) ∧
  (type_of% @decide_false) ∧
  (type_of% @Bool.not_true) ∧
  (type_of% @Bool.not_false) ∧
  (type_of% @Bool.true_and) ∧
  (type_of% @Bool.and_true) ∧
  (type_of% @Bool.false_and) ∧
  (type_of% @Bool.and_false) ∧
  (type_of% @beq_self_eq_true.{0}) ∧
  (type_of% @List.map_cons.{0, 0}) ∧
  (type_of% @List.map_nil.{0, 0}) ∧
  (type_of% @List.nil_append.{0}) ∧
  (type_of% @List.append_nil.{0}) ∧
  (type_of% @List.cons_append.{0}) ∧
  (type_of% @List.length_nil.{0}) ∧
  (type_of% @List.length_cons.{0}) ∧
  (type_of% @List.length_map.{0, 0}) ∧
  (type_of% @List.length_append.{0}) ∧
  (type_of% @List.getElem?_cons_zero.{0}) ∧
  (type_of% @List.getElem?_cons_succ.{0}) ∧
  (type_of% @List.getElem?_nil.{0}) ∧
  (type_of% @List.getElem?_toArray.{0}) ∧
  (type_of% @List.set_cons_zero.{0}) ∧
  (type_of% @List.set_cons_succ.{0}) ∧
  (type_of% @List.contains_cons.{0}) ∧
  (type_of% @List.contains_nil.{0}) ∧
  (type_of% @List.elem_nil.{0}) ∧
  (type_of% @Ww) ∧
  (type_of% @Wv) ∧
  (type_of% @Wz) ∧
  (type_of% @Wy) ∧
  (type_of% @Wx) ∧
  (type_of% @List.getElem?_map.{0, 0}) ∧
  (type_of% @JA) ∧
  (type_of% @List.range'_succ) ∧
  (type_of% @List.range'_zero) ∧
  (type_of% @List.cons.injEq.{0}) ∧
  (type_of% @List.take_succ_cons.{0}) ∧
  (type_of% @List.take_zero.{0}) ∧
  (type_of% @List.drop_succ_cons.{0}) ∧
  (type_of% @List.drop_zero.{0}) ∧
  (type_of% @List.take_nil.{0}) ∧
  (type_of% @List.drop_nil.{0}) ∧
  (type_of% @Option.map_some.{0, 0}) ∧
  (type_of% @Option.map_none.{0, 0}) ∧
  (type_of% @Option.isSome_some.{0}) ∧
  (type_of% @Option.isNone_none.{0}) ∧
  (type_of% @Option.all_some.{0}) ∧
  (type_of% @and_self) ∧
  (type_of% @and_true) ∧
  (type_of% @true_and) ∧
  (type_of% @ne_eq.{0}) ∧
  (type_of% @not_true_eq_false) ∧
  (type_of% @not_false_eq_true) ∧
  (type_of% @Bool.false_eq_true) ∧
  (type_of% @Nat.zero_add) ∧
  (type_of% @Nat.add_zero) ∧
  (type_of% @Int.toNat_natCast) ∧
  (type_of% @Nat.zero_le) ∧
  (type_of% @Nat.le_refl) ∧
  (type_of% @List.all_cons.{0}) ∧
  (type_of% @List.all_nil.{0}) ∧
  (type_of% @Nat.not_lt_zero) ∧
  (type_of% @true_implies) ∧
  (type_of% @forall_const.{0}) :=
 ⟨@Vm, @Vl, @Vk, @Vh, @V0, @List.take_length, @WH, @WG, @WE, @WI, @SY, @false_and, @SD, @Sw, @Sv, @V1, @VX, @VY, @V4, @VV, @VZ, @V2, @TL, @Sn, @wrap64, @Tw, @FM, @V6, @V7, @dT, @dF, @V8, @Ea, @PA, @VN, @Tx, @Tz, @Ty, @TA, @Vn, @T1, @T0, @Sp, @Bool.or_true, @Bool.true_or, @Bool.or_false, @Bool.false_or, @decide_true, @decide_false, @Bool.not_true, @Bool.not_false, @Bool.true_and, @Bool.and_true, @Bool.false_and, @Bool.and_false, @beq_self_eq_true, @List.map_cons, @List.map_nil, @List.nil_append, @List.append_nil, @List.cons_append, @List.length_nil, @List.length_cons, @List.length_map, @List.length_append, @List.getElem?_cons_zero, @List.getElem?_cons_succ, @List.getElem?_nil, @List.getElem?_toArray, @List.set_cons_zero, @List.set_cons_succ, @List.contains_cons, @List.contains_nil, @List.elem_nil, @Ww, @Wv, @Wz, @Wy, @Wx, @List.getElem?_map, @JA, @List.range'_succ, @List.range'_zero, @List.cons.injEq, @List.take_succ_cons, @List.take_zero, @List.drop_succ_cons, @List.drop_zero, @List.take_nil, @List.drop_nil, @Option.map_some, @Option.map_none, @Option.isSome_some, @Option.isNone_none, @Option.all_some, @and_self, @and_true, @true_and, @ne_eq, @not_true_eq_false, @not_false_eq_true, @Bool.false_eq_true, @Nat.zero_add, @Nat.add_zero, @Int.toNat_natCast, @Nat.zero_le, @Nat.le_refl, @List.all_cons, @List.all_nil, @Nat.not_lt_zero, @true_implies, @forall_const⟩
end Pe
end
section
namespace Pe
open Go Go.RowKit Go.WideShapes Go.ChangeShapes
def N2 (W : World) (b : Nat) : Nat :=
 match W.heap[b]? with
 | some (.cells cs _ _) => cs.size
 | _ => 0
def g0 (W : World) : Gh := ⟨N2 W, fun _ => 0, fun _ _ => False, 0, fun _ => false, fun _ => 0, fun _ => 0⟩
theorem S9 {W : World} {b o : Nat} {v : Value} (h : W.cell? ⟨b, o, none⟩ = some v) : o < N2 W b := by
 unfold World.cell? at h;unfold N2;cases hb : W.heap[b]? with
 | none => simp [hb] at h
 | some ob =>
  cases ob with
  | cells cs t fr =>
   simp only [hb] at h ⊢;by_cases hlt : o < cs.size
   ·exact hlt
   ·have hn : cs[o]? = none := Array.getElem?_eq_none (by omega)
    simp [hn] at h
  | _ => simp [hb] at h
theorem Yg [Tab] {W : World} (h : ∀ b i v, Tab.T b i = some v → W.cell? ⟨b, i, none⟩ = some v) : WF W (g0 W) [] :=
 ⟨rfl, fun l o hl => by simp at hl, fun l l' b hl => absurd hl (Nat.not_lt_zero _), fun l b hl => absurd hl (Nat.not_lt_zero _), fun b i v hv => ⟨S9 (h b i v hv), h b i v hv⟩⟩
theorem Zds {W W' : World} {g' : Gh} (h : Evo W (g0 W) W' g') : Below W.heap.size W W' :=
 ⟨h.os, h.tape, h.output, h.size, fun b hb => h.old b hb fun l hl => absurd hl (Nat.not_lt_zero _)⟩
theorem law_run [Tab] {P : Program} {f : FuncId} {args : List AV} {S' : Ae} {b : Bool} (h : AC P f args [] (.bo b) S') {W : World} (hT : ∀ b i v, Tab.T b i = some v → W.cell? ⟨b, i, none⟩ = some v) {cargs : Array Value} (ha : De W (g0 W) args cargs) :
  Calls P f cargs W fun e W' => e = .returned (.bool b) ∧ Below W.heap.size W W' :=
 (h.run W (g0 W) cargs (Yg hT) ha).mono fun e W' ⟨cv, g', he, _, hr, hev⟩ => by
  cases hr
  exact ⟨he, Zds hev⟩
theorem lrel0 {w : World} {g : Gh} : De w g [] #[] := ⟨rfl, fun j u v hu => by simp at hu⟩
theorem lrelL {w : World} {g : Gh} {us : List AV} {vs : List Value} {u : AV} {v : Value} (h : Rel w g u v) (hs : De w g us vs.toArray) : De w g (u :: us) (v :: vs).toArray := by
 refine ⟨by have := hs.1; simp at this; simp [this], fun j a b ha hb => ?_⟩
 cases j with
 | zero => simp at ha hb; subst ha hb; exact h
 | succ j => exact hs.2 j a b (by simpa using ha) (by simpa using hb)
theorem ZaD (W : World) (g : Gh) (x : ByteArray) : Rel W g (.st x.data.toList) (.string x) := by
 have := Rel.st (w := W) g x.data.toList;rwa [show (⟨x.data.toList.toArray⟩ : ByteArray) = x from by rw [Array.toArray_toList]] at this
theorem ZaG (W : World) (g : Gh) : Rel W g (.sl .ro []) (.slice none 0 0) :=
 .sl g .ro [] none 0 0 (fun _ => .bool false) (Nat.le_refl _) (Nat.zero_le _) (fun e he => by simp at he) (fun h => absurd h (by simp)) (fun j hj => by simp [Av] at hj) (fun j u hu => by simp [Av] at hu) trivial
end Pe
namespace Pe
open Go Go.RowKit Go.ChangeShapes
def KM (P : Program) (t : TypeId) : List Field → Nat → Bool
 | [], o => o == P.cellsOf t
 | f :: r, o => f.offset == o && KM P t r (o + P.cellsOf f.type)
def EC (P : Program) (t : TypeId) : Bool := match P.underlying t with
 | some (.struct _) => true
 | _ => false
def fo (P : Program) : Nat → TypeId → Bool
 | 0, _ => false
 | n + 1, t => match P.underlying t with
  | some .bool => P.cellsOf t == 1
  | some .string => P.cellsOf t == 1
  | some (.int _) => P.cellsOf t == 1
  | some (.slice e) => P.cellsOf t == 1 && decide (0 < P.cellsOf e) && decide (0 < P.bytesOf e) && fo P n e
  | some (.struct fs) => KM P t fs.toList 0 && fs.toList.all fun f => fo P n f.type
  | _ => false
def el (ag : Bool) (us : List AV) : AV := if ag then .agg us else us.headD .junk
def L3 (S : TypeId → List AV → Prop) : List Field → List AV → Prop
 | [], us => us = []
 | f :: r, us => ∃ a b, us = a ++ b ∧ S f.type a ∧ L3 S r b
def Bm (P : Program) (B : Nat) : Nat → TypeId → List AV → Prop
 | 0, _, _ => False
 | n + 1, t, us => match P.underlying t with
  | some .bool => ∃ b, us = [.bo b]
  | some .string => ∃ l : List UInt8, us = [.st l] ∧ l.length ≤ B
  | some (.int k) => ∃ i, us = [.it k i] ∧ (Lit.int k i).wf = true
  | some (.slice e) => ∃ es : List (List AV), us = [.sl .ro (es.map (el (EC P e)))] ∧ (∀ x ∈ es, Bm P B n e x) ∧ es.length ≤ B
  | some (.struct fs) => L3 (Bm P B n) fs.toList us
  | _ => False
section
variable {P : Program}
theorem UC {B n : Nat} {t : TypeId} {us : List AV} (h : Bm P B n t us) : (el (EC P t) us).cells = us := by
 cases n with
 | zero => cases h
 | succ n =>
  unfold Bm at h;unfold EC;split at h
  ·rename_i hu; rw [hu]; obtain ⟨b, rfl⟩ := h; rfl
  ·rename_i hu; rw [hu]; obtain ⟨b, rfl, _⟩ := h; rfl
  ·rename_i hu; rw [hu]; obtain ⟨b, rfl, _⟩ := h; rfl
  ·rename_i hu; rw [hu]; obtain ⟨b, rfl, _⟩ := h; rfl
  ·rename_i hu; rw [hu]; rfl
  ·cases h
theorem AF.nil (w : World) (g : Gh) : AF w g [] #[] := ⟨rfl, by simp, by simp⟩
theorem AF.one {w : World} {g : Gh} {u : AV} {v : Value} (h : Rel w g u v) (h1 : v.oneCell' = true) : AF w g [u] #[v] := by
 refine ⟨rfl, by simpa using h1, fun j x y hx hy => ?_⟩
 match j with
 | 0 => cases hx; cases hy; exact h
 | j + 1 => simp at hx
theorem AF.app {w : World} {g : Gh} {us us' : List AV} {vs vs' : List Value} (h : AF w g us vs.toArray) (h' : AF w g us' vs'.toArray) : AF w g (us ++ us') (vs ++ vs').toArray := by
 obtain ⟨a1, a2, a3⟩ := h;obtain ⟨b1, b2, b3⟩ := h';have a1 : vs.length = us.length := by simpa using a1
 have b1 : vs'.length = us'.length := by simpa using b1
 refine ⟨by simp [a1, b1], fun v hv => ?_, fun j x y hx hy => ?_⟩
 ·rcases List.mem_append.1 hv with hv | hv
  ·exact a2 v hv
  ·exact b2 v hv
 ·by_cases hj : j < us.length
  ·rw [List.getElem?_append_left hj] at hx
   have hy : vs[j]? = some y := by rw [← List.getElem?_append_left (l₂ := vs') (by omega)]; simpa using hy
   exact a3 j x y hx (by simpa using hy)
  ·rw [List.getElem?_append_right (by omega)] at hx
   have hy : vs'[j - us.length]? = some y := by
    have : (vs ++ vs')[j]? = some y := by simpa using hy
    rw [List.getElem?_append_right (by omega), a1] at this
    exact this
   exact b3 _ x y hx (by simpa using hy)
theorem Zc8 (f : List AV → AV) (es : List (List AV)) (h : ∀ x ∈ es, (f x).cells = x) : Av (es.map f) = es.flatten := by
 induction es with
 | nil => rfl
 | cons x es ih =>
  rw [List.map_cons, Av, List.flatMap_cons, h x (by simp), List.flatten_cons]
  exact congrArg _ (ih fun y hy => h y (by simp [hy]))
theorem T6 {α : Type} {sz : Nat} : ∀ {es : List (List α)} (_ : ∀ x ∈ es, x.length = sz) (j : Nat) (u : α), es.flatten[j]? = some u → ∃ i k x, es[i]? = some x ∧ x[k]? = some u ∧ k < sz ∧ j = i * sz + k
 | [], _, j, u, h => by simp at h
 | x :: es, hs, j, u, h => by
  have hx := hs x (by simp)
  rw [List.flatten_cons] at h;by_cases hj : j < x.length
  ·rw [List.getElem?_append_left hj] at h
   exact ⟨0, j, x, rfl, h, by omega, by omega⟩
  ·rw [List.getElem?_append_right (by omega)] at h
   obtain ⟨i, k, y, h1, h2, h3, h4⟩ := T6 (fun y hy => hs y (by simp [hy])) _ u h
   exact ⟨i + 1, k, y, by simpa using h1, h2, h3, by rw [Nat.succ_mul]; omega⟩
theorem T5 {α : Type} {sz : Nat} : ∀ {es : List (List α)} (_ : ∀ x ∈ es, x.length = sz), es.flatten.length = es.length * sz
 | [], _ => by simp
 | x :: es, hs => by
  rw [List.flatten_cons, List.length_append, T5 (fun y hy => hs y (by simp [hy])), hs x (by simp), List.length_cons, Nat.succ_mul]; omega
theorem Yh {H : Type} {e : TypeId} {l : List (DataW H)} {d : DataW H} {n : Nat} (hd : d ∈ l) (hn : n ∈ d.weights P e) : n ∈ DataW.weightsAll P e l := by
 induction l with
 | nil => cases hd
 | cons a l ih =>
  rw [DataW.weightsAll];rcases List.mem_cons.1 hd with rfl | hd
  ·exact List.mem_append_left _ hn
  ·exact List.mem_append_right _ (ih hd)
variable {H : Type} {enc : TypeId × Value → H} {W : World} {base : Nat} {spare : Nat → Bool} {held : Bool}
theorem ZbG (B : Nat) : ∀ (n fuel : Nat) (t : TypeId) (cs : List Value) (x : DataW H × List MemPlace), fo P n t = true → DataW.trod enc P W base spare held fuel t cs = some x → (∀ m ∈ x.1.weights P t, m ≤ B) →
  ∃ us, Bm P B n t us ∧ AF W (g0 W) us cs.toArray ∧ cs.length = P.cellsOf t := by
 intro n;induction n with
 | zero => intro fuel t cs x h; cases h
 | succ n ih =>
  intro fuel t cs x hf ht hwt;unfold fo at hf;unfold Bm;split at hf <;> rename_i hu
  ·obtain ⟨b, rfl, _⟩ := DataW.trod_bool hu ht
   exact ⟨[.bo b], ⟨b, rfl⟩, AF.one (.bo _ b) rfl, by simpa using Eq.symm (by simpa using hf)⟩
  ·obtain ⟨s, rfl, rfl, hs⟩ := DataW.trod_string hu ht
   exact ⟨[.st s.data.toList], ⟨_, rfl, by simpa [DataW.weights] using hwt s.data.toList.length (by simp [DataW.weights])⟩, AF.one (ZaD W _ s) rfl, by simpa using Eq.symm (by simpa using hf)⟩
  ·obtain ⟨i, rfl, _, hi⟩ := DataW.trod_int hu ht
   exact ⟨[.it _ i], ⟨i, rfl, hi⟩, AF.one (.it _ _ i) rfl, by simpa using Eq.symm (by simpa using hf)⟩
  ·rename_i e
   simp only [Bool.and_eq_true, decide_eq_true_eq, beq_iff_eq] at hf;obtain ⟨⟨⟨hc, hpos⟩, hbp⟩, hfe⟩ := hf;rcases Go.Deep.open_slice hu ht with ⟨rfl, _⟩ | ⟨a, len, cap, m, k, D, Pl, rfl, _, hle, hmx, hm, rfl, hx⟩
   ·exact ⟨[.sl .ro []], ⟨[], rfl, by simp, Nat.zero_le _⟩, AF.one (ZaG W _) rfl, by simpa using hc.symm⟩
   have hlm : len ≤ m := by rw [hm]; split <;> omega
   obtain ⟨U, hU⟩ := Go.Deep.choose_lt (α := List AV × List Value) (n := len) (p := fun i q => Bm P B n e q.1 ∧ AF W (g0 W) q.1 q.2.toArray ∧ q.2.length = P.cellsOf e ∧ W.cells? base (a.add (i * P.cellsOf e)) (P.cellsOf e) = some q.2) (fun i hi => by
    obtain ⟨cs', h1, h2⟩ := hx i (by omega)
    obtain ⟨us, h3, h4, h5⟩ := ih _ _ _ _ hfe h2 (fun y hy => hwt y (by
     simp only [DataW.weights, hu];exact List.mem_cons_of_mem _ (List.mem_append_left _ (Yh (List.mem_map.2 ⟨i, by simpa using hi, rfl⟩) hy))))
    exact ⟨(us, cs'), h3, h4, h5, h1⟩)
   have hes : ∀ x ∈ (List.range len).map fun i => (U i).1, Bm P B n e x := fun x hx => by
    obtain ⟨i, hi, rfl⟩ := List.mem_map.1 hx;exact (hU i (by simpa using hi)).1
   have hsz : ∀ x ∈ (List.range len).map fun i => (U i).1, x.length = P.cellsOf e := fun x hx => by
    obtain ⟨i, hi, rfl⟩ := List.mem_map.1 hx;have h := hU i (by simpa using hi)
    have := h.2.1.1;rw [← this];simpa using h.2.2.1
   have hlB : len ≤ B := by
    have h := hwt ((((List.range len).map D).length + ((List.range (m - len)).map fun j => D (len + j)).length) * P.bytesOf e) (by simp only [DataW.weights, hu]; exact List.mem_cons_self ..)
    rw [List.length_map, List.length_range] at h;exact Nat.le_trans (Nat.le_trans (Nat.le_add_right _ _) (Nat.le_mul_of_pos_right _ hbp)) h
   refine ⟨_, ⟨(List.range len).map fun i => (U i).1, rfl, hes, by simpa using hlB⟩, AF.one ?_ rfl, by simpa using hc.symm⟩
   have hfl : Av (((List.range len).map fun i => (U i).1).map (el (EC P e))) = ((List.range len).map fun i => (U i).1).flatten := Zc8 _ _ fun x hx => UC (hes x hx)
   have hln : (((List.range len).map fun i => (U i).1).map (el (EC P e))).length = len := by simp
   have hcell : ∀ j u, ((List.range len).map fun i => (U i).1).flatten[j]? = some u → ∃ v, W.cell? (a.add j) = some v ∧ v.oneCell' = true ∧ Rel W (g0 W) u v := by
    intro j u hj;obtain ⟨i, k', x, h1, h2, h3, rfl⟩ := T6 hsz j u hj;rw [List.getElem?_map] at h1
    by_cases hi : i < len
    ·rw [List.getElem?_range hi] at h1
     simp only [Option.map_some, Option.some.injEq] at h1;subst h1;obtain ⟨g1, g2, g3, g4⟩ := hU i hi;obtain ⟨_, c2, c3⟩ := World.cells?_some g4
     have hk : k' < (U i).2.length := by omega
     have c4 := c3 k' h3;rw [List.getElem?_eq_getElem hk] at c4
     refine ⟨(U i).2[k'], ?_, g2.2.1 _ (by simp), g2.2.2 k' u _ h2 (by simp [hk])⟩
     rw [← c4];congr 1
     generalize i * P.cellsOf e = y;unfold Addr.add;by_cases hy : y = 0 <;> by_cases hk : k' = 0 <;> simp [hy, hk, Nat.add_assoc]
    ·rw [List.getElem?_eq_none (by simp; omega)] at h1
     cases h1
   have hfln := T5 hsz;rw [List.length_map, List.length_range] at hfln;have hget : ∀ j, j < ((List.range len).map fun i => (U i).1).flatten.length → ∃ u, ((List.range len).map fun i => (U i).1).flatten[j]? = some u := fun j hj => ⟨_, List.getElem?_eq_getElem hj⟩
   have h := Rel.sl (w := W) (g0 W) .ro (((List.range len).map fun i => (U i).1).map (el (EC P e))) (some a) cap (P.cellsOf e) (fun j => (W.cell? (a.add j)).getD default) (by rw [hln]; exact hle) hmx
    (fun x hx => by
     obtain ⟨y, hy, rfl⟩ := List.mem_map.1 hx;rw [UC (hes y hy), hsz y hy])
    (fun h0 => ?_) (fun j hj => ?_) (fun j u hu' => ?_) trivial
   ·rw [hln] at h; exact h
   ·rw [hln] at h0
    obtain ⟨b, off, spot⟩ := a;have hp0 : 0 < ((List.range len).map fun i => (U i).1).flatten.length := by rw [hfln]; exact Nat.mul_pos h0 hpos
    have hspot : spot = none := by
     obtain ⟨u, hu'⟩ := hget 0 hp0;obtain ⟨v, hv, _⟩ := hcell 0 u hu';simpa [Addr.add] using World.cell?_spot hv
    subst hspot;refine ⟨b, off, rfl, fun j hj => ?_⟩
    rw [hfl] at hj;obtain ⟨u, hu'⟩ := hget j hj;obtain ⟨v, hv, _⟩ := hcell j u hu';rw [Addr.add_lit] at hv;refine ⟨S9 hv, ?_⟩
    show _ = some ((W.cell? (Addr.add ⟨b, off, none⟩ j)).getD default)
    rw [Addr.add_lit, hv]; rfl
   ·rw [hfl] at hj
    obtain ⟨u, hu'⟩ := hget j hj;obtain ⟨v, hv, h1, _⟩ := hcell j u hu';show ((W.cell? (a.add j)).getD default).oneCell' = true
    rw [hv]; exact h1
   ·rw [hfl] at hu'
    obtain ⟨v, hv, _, h2⟩ := hcell j u hu';show Rel W (g0 W) u ((W.cell? (a.add j)).getD default)
    rw [hv]; exact h2
  ·rename_i fs
   simp only [Bool.and_eq_true, List.all_eq_true] at hf;obtain ⟨xs, k, _, rfl, hl, hlen, hx⟩ := DataW.trod_struct hu ht;suffices H : ∀ (r : List Field) (o i : Nat), KM P t r o = true → (∀ f ∈ r, fo P n f.type = true) → r = fs.toList.drop i → o ≤ cs.length →
     ∃ us, L3 (Bm P B n) r us ∧ AF W (g0 W) us (cs.drop o).toArray by
    obtain ⟨us, h1, h2⟩ := H fs.toList 0 0 hf.1 hf.2 rfl (Nat.zero_le _);exact ⟨us, h1, by simpa using h2, hl⟩
   intro r;induction r with
   | nil =>
    intro o i hc _ _ ho
    have : o = cs.length := by rw [hl]; simpa [KM] using hc
    subst this;exact ⟨[], rfl, by rw [List.drop_length]; exact AF.nil _ _⟩
   | cons f r ihr =>
    intro o i hc hall hr ho;simp only [KM, Bool.and_eq_true, beq_iff_eq] at hc;have hfi : fs[i]? = some f := by
     have : (fs.toList.drop i)[0]? = some f := by rw [← hr]; rfl
     simpa using this
    have hil : i < xs.length := by
     rw [hlen];exact (Array.getElem?_eq_some_iff.1 hfi).1
    have hxi := hx i f hfi;rw [List.getElem?_eq_getElem hil] at hxi
    obtain ⟨us, h1, h2, h3⟩ := ih _ _ _ _ (hall f (by simp)) hxi (fun y hy => hwt y (by
     simp only [DataW.weights, hu];refine DataW.weights_mem_each (j := i) (t := f.type) (d := (xs[i]).1) ?_ ?_ y hy
     ·rw [List.getElem?_map, Array.getElem?_toList, hfi]; rfl
     ·rw [List.getElem?_map, List.getElem?_eq_getElem hil]; rfl))
    rw [hc.1] at h2 h3;rw [List.length_take, List.length_drop] at h3;obtain ⟨us', h4, h5⟩ := ihr (o + P.cellsOf f.type) (i + 1) hc.2 (fun f' hf' => hall f' (by simp [hf'])) (by rw [← List.drop_drop, ← hr]; rfl) (by omega)
    refine ⟨us ++ us', ⟨us, us', rfl, h1, h4⟩, ?_⟩
    have := AF.app h2 h5;rw [← List.drop_drop, List.take_append_drop] at this;exact this
  ·cases hf
theorem open_agg {B n : Nat} {t : TypeId} {fs : Array Field} {r : Reach} {v : Value} {d : DataW H} {p : List MemPlace} (ht : P.underlying t = some (.struct fs)) (hf : fo P n t = true) {b0 : Nat} (hok : Value.okWide P W r b0 t v) (h : DataW.Trod enc P W base spare held t v d p) (hwt : ∀ m ∈ d.weights P t, m ≤ B) :
  ∃ us, Bm P B n t us ∧ Rel W (g0 W) (.agg us) v := by
 obtain ⟨fuel, h⟩ := h;simp only [Value.okWide, ht] at hok;obtain ⟨cs, rfl, _⟩ := hok;obtain ⟨us, h1, h2, _⟩ := ZbG B n fuel t _ _ hf h hwt;exact ⟨us, h1, PI (by simpa [Value.cells] using h2)⟩
theorem Dg {B n : Nat} {t : TypeId} {us : List AV} (hu : P.underlying t = some .string) (h : Bm P B (n + 1) t us) : ∃ l : List UInt8, us = [.st l] ∧ l.length ≤ B := by unfold Bm at h; rw [hu] at h; exact h
theorem Zg {B n : Nat} {k : IntKind} {t : TypeId} {us : List AV} (hu : P.underlying t = some (.int k)) (h : Bm P B (n + 1) t us) : ∃ i, us = [.it k i] ∧ (Lit.int k i).wf = true := by unfold Bm at h; rw [hu] at h; exact h
theorem Bt {B n : Nat} {t : TypeId} {us : List AV} (hu : P.underlying t = some (.int .i64)) (h : Bm P B (n + 1) t us) : ∃ i, us = [.it .i64 i] ∧ -9223372036854775808 ≤ i ∧ i ≤ 9223372036854775807 := by
 obtain ⟨i, rfl, w⟩ := Zg hu h;clear h;have h : (decide (IntKind.i64.min ≤ i) && decide (i ≤ IntKind.i64.max)) = true := w;simp only [Bool.and_eq_true, decide_eq_true_eq] at h;have h1 : IntKind.i64.min = -9223372036854775808 := by decide
 have h2 : IntKind.i64.max = 9223372036854775807 := by decide
 rw [h1, h2] at h;exact ⟨i, rfl, h⟩
theorem JW {α : Type} {B n : Nat} {t e : TypeId} {us : List AV} (enc : α → AV) (Q : α → Prop) (hu : P.underlying t = some (.slice e)) (h : Bm P B (n + 1) t us) (he : ∀ x, Bm P B n e x → ∃ a, el (EC P e) x = enc a ∧ Q a) :
  ∃ l : List α, us = [.sl .ro (l.map enc)] ∧ l.length ≤ B ∧ ∀ a ∈ l, Q a := by
 unfold Bm at h;rw [hu] at h;obtain ⟨es, rfl, h1, h2⟩ := h;suffices H : ∃ l : List α, es.map (el (EC P e)) = l.map enc ∧ l.length = es.length ∧ ∀ a ∈ l, Q a by
  obtain ⟨l, e1, e2, e3⟩ := H;exact ⟨l, by rw [e1], by omega, e3⟩
 clear h2;induction es with
 | nil => exact ⟨[], rfl, rfl, by simp⟩
 | cons x es ih =>
  obtain ⟨l, e1, e2, e3⟩ := ih fun y hy => h1 y (by simp [hy])
  obtain ⟨a, e4, e5⟩ := he x (h1 x (by simp))
  exact ⟨a :: l, by rw [List.map_cons, List.map_cons, e1, e4], by simp [e2], fun b hb => by
   rcases List.mem_cons.1 hb with rfl | hb
   ·exact e5
   ·exact e3 b hb⟩
theorem E4 {B n : Nat} {t : TypeId} {fs : Array Field} {us : List AV} (hu : P.underlying t = some (.struct fs)) (h : Bm P B (n + 1) t us) : L3 (Bm P B n) fs.toList us := by unfold Bm at h; rw [hu] at h; exact h
theorem weights_of {ts : List TypeId} {ds : List (DataW H)} (h : (DataW.weightsEach P ts ds).all (· ≤ reachBytes) = true) {j : Nat} {t : TypeId} {d : DataW H} (ht : ts[j]? = some t) (hd : ds[j]? = some d) : ∀ m ∈ d.weights P t, m ≤ 140737488351232 := fun m hm => by
 have := List.all_eq_true.1 h _ (DataW.weights_mem_each ht hd m hm);exact of_decide_eq_true this
end
end Pe
end
section
namespace Co
open Go
abbrev By := List UInt8
def If : Nat → Nat → By
 | 0, _ => []
 | f + 1, n => if n < 128 then [UInt8.ofNat n] else UInt8.ofNat (128 + n % 128) :: If f (n / 128)
theorem SL : ∀ (f g n : Nat), n < f → n < g → If f n = If g n
 | 0, _, _, h, _ => by omega
 | _, 0, _, _, h => by omega
 | f + 1, g + 1, n, h, h' => by
  unfold If;by_cases hn : n < 128
  ·rw [if_pos hn, if_pos hn]
  ·rw [if_neg hn, if_neg hn, SL f g (n / 128) (by omega) (by omega)]
def num (n : Nat) : By := If (n + 1) n
theorem F7 {n : Nat} (h : n < 128) : num n = [UInt8.ofNat n] := by unfold num If; rw [if_pos h]
theorem Ic {n : Nat} (h : ¬ n < 128) : num n = UInt8.ofNat (128 + n % 128) :: num (n / 128) := by
 unfold num;rw [If, if_neg h, SL n (n / 128 + 1) (n / 128) (by omega) (by omega)]
theorem Mq (n : Nat) : 0 < (num n).length := by
 by_cases h : n < 128
 ·rw [F7 h]; simp
 ·rw [Ic h]; simp
theorem Jf (k : Nat) : ∀ n, n < 128 ^ (k + 1) → (num n).length ≤ k + 1 := by
 induction k with
 | zero => intro n h; rw [F7 (by omega)]; simp
 | succ k ih =>
  intro n h;by_cases h1 : n < 128
  ·rw [F7 h1]; simp
  ·rw [Ic h1, List.length_cons]
   have := ih (n / 128) (by rw [Nat.div_lt_iff_lt_mul (by omega)]; rw [Nat.pow_succ] at h; omega)
   omega
def Ah (n : Int) : By := if n < 0 then [] else num n.toNat
theorem E9 (n : Nat) : Ah (n : Int) = num n := by unfold Ah; rw [if_neg (by omega), Int.toNat_natCast]
theorem Ak (n : Int) (h : n < 9223372036854775808) : (Ah n).length ≤ 9 := by
 unfold Ah;split
 ·simp
 ·exact Jf 8 n.toNat (by omega)
def text (s : By) : By := num s.length ++ s
def list (l : List By) : By := num l.length ++ (l.map text).flatten
structure R where
 rest : By
 bad : Bool
def Dw : By → Nat → Nat → Option (Nat × By)
 | [], _, _ => none
 | d :: r, i, n => if 9 ≤ i then none else if 128 ≤ d.toNat then Dw r (i + 1) (n + (d.toNat - 128) * 2 ^ (7 * i)) else if d.toNat = 0 ∧ 0 < i then none else some (n + d.toNat * 2 ^ (7 * i), r)
theorem Jc (d : UInt8) (r : By) (i n : Nat) : Dw (d :: r) i n = if 9 ≤ i then none else if 128 ≤ d.toNat then Dw r (i + 1) (n + (d.toNat - 128) * 2 ^ (7 * i)) else if d.toNat = 0 ∧ 0 < i then none else some (n + d.toNat * 2 ^ (7 * i), r) := rfl
def fail : R := ⟨[], true⟩
def R.num (x : R) : Nat × R := match Dw x.rest 0 0 with
 | some (n, r) => (n, ⟨r, x.bad⟩)
 | none => (0, fail)
def R.take (x : R) (n : Nat) : By × R := if x.bad = true ∨ x.rest.length < n then ([], fail) else (x.rest.take n, ⟨x.rest.drop n, x.bad⟩)
def R.text (x : R) : By × R := x.num.2.take x.num.1
def R.texts : Nat → R → List By × R
 | 0, x => ([], x)
 | n + 1, x => if x.bad then ([], x) else (x.text.1 :: (R.texts n x.text.2).1, (R.texts n x.text.2).2)
def R.list (x : R) : List By × R :=
 let y := if x.num.2.rest.length < x.num.1 then fail else x.num.2
 if (y.texts x.num.1).2.bad then ([], (y.texts x.num.1).2) else y.texts x.num.1
theorem Mh : ∀ (l : By) (i n m : Nat) (r : By), i ≤ 9 → n < 2 ^ (7 * i) → Dw l i n = some (m, r) → m < 2 ^ 63 ∧ r.length < l.length
 | [], _, _, _, _, _, _, h => by cases h
 | d :: l, i, n, m, r, hi, hn, h => by
  unfold Dw at h;have hd : d.toNat < 256 := d.toNat_lt;split at h
  ·cases h
  rename_i h9
  have hp : 2 ^ (7 * (i + 1)) = 128 * 2 ^ (7 * i) := by rw [show 7 * (i + 1) = 7 + 7 * i from by omega, Nat.pow_add]
  split at h
  ·rename_i h128
   have hc : (d.toNat - 128) * 2 ^ (7 * i) ≤ 127 * 2 ^ (7 * i) := Nat.mul_le_mul_right _ (by omega)
   have := Mh l (i + 1) _ m r (by omega) (by rw [hp]; omega) h
   have h2 := this.2;exact ⟨this.1, Nat.lt_succ_of_lt h2⟩
  ·rename_i h128
   split at h
   ·cases h
   ·cases h
    have hc : d.toNat * 2 ^ (7 * i) ≤ 127 * 2 ^ (7 * i) := Nat.mul_le_mul_right _ (by omega)
    have hq : 2 ^ (7 * (i + 1)) ≤ 2 ^ 63 := Nat.pow_le_pow_right (by omega) (by omega)
    exact ⟨by rw [hp] at hq; omega, by simp⟩
theorem F8 (x : R) : x.num.1 < 2 ^ 63 := by
 unfold R.num;split
 ·rename_i n r h; exact (Mh _ 0 0 _ _ (by omega) (by simp) h).1
 ·simp
theorem Cq (x : R) : x.num.2.rest.length ≤ x.rest.length := by
 unfold R.num;split
 ·rename_i n r h; have := (Mh _ 0 0 _ _ (by omega) (by simp) h).2; show r.length ≤ _; omega
 ·exact Nat.zero_le _
theorem JQ (x : R) (n : Nat) : (x.take n).2.rest.length ≤ x.rest.length ∧ (x.take n).1.length ≤ x.rest.length := by
 unfold R.take;split
 ·exact ⟨Nat.zero_le _, Nat.zero_le _⟩
 ·refine ⟨?_, ?_⟩
  ·show (x.rest.drop n).length ≤ _; simp
  ·show (x.rest.take n).length ≤ _; simp; omega
theorem Ep (x : R) : x.text.2.rest.length ≤ x.rest.length ∧ x.text.1.length ≤ x.rest.length := by
 have := JQ x.num.2 x.num.1;have := Cq x;unfold R.text;omega
theorem QD : ∀ (n : Nat) (x : R), (x.texts n).2.rest.length ≤ x.rest.length ∧ (∀ s ∈ (x.texts n).1, s.length ≤ x.rest.length) ∧ (x.texts n).1.length ≤ n
 | 0, x => ⟨Nat.le_refl _, by simp [R.texts], Nat.le_refl _⟩
 | n + 1, x => by
  unfold R.texts;split
  ·exact ⟨Nat.le_refl _, by simp, Nat.zero_le _⟩
  ·have h1 := QD n x.text.2
   have h2 := Ep x;refine ⟨by show (R.texts n x.text.2).2.rest.length ≤ _; omega, fun s hs => ?_, by simp only [List.length_cons]; omega⟩
   rcases List.mem_cons.1 hs with rfl | hs
   ·exact h2.2
   ·have := h1.2.1 s hs; omega
theorem Su (a c j : Nat) (ha : a < 2 ^ j) (h : a + c * 2 ^ j < 2 ^ 63) : Go.bits .or .i64 (a : Int) ((c * 2 ^ j : Nat) : Int) = ((a + c * 2 ^ j : Nat) : Int) := by
 have hor : a ||| c * 2 ^ j = a + c * 2 ^ j := by
  rw [Nat.or_comm, Nat.mul_comm, ← Nat.two_pow_add_eq_or_of_lt ha, Nat.add_comm]
 have e3 : (BitVec.ofNat 64 a ||| BitVec.ofNat 64 (c * 2 ^ j)).toNat = a + c * 2 ^ j := by
  rw [BitVec.toNat_or, BitVec.toNat_ofNat, BitVec.toNat_ofNat, Nat.mod_eq_of_lt (by omega), Nat.mod_eq_of_lt (by omega), hor]
 have e4 : Go.bits .or .i64 (a : Int) ((c * 2 ^ j : Nat) : Int) = IntKind.i64.wrap ((BitVec.ofInt 64 (a : Int) ||| BitVec.ofInt 64 ((c * 2 ^ j : Nat) : Int)).toNat : Int) := rfl;rw [e4, BitVec.ofInt_natCast, BitVec.ofInt_natCast, e3];rw [IntKind.wrap_i64]; omega
theorem SE {n : Nat} (h : n < 256) : (UInt8.ofNat n).toNat = n := by rw [UInt8.toNat_ofNat']; omega
theorem RY : ∀ (f n i acc : Nat) (rest : By), n < f → i ≤ 8 → n < 2 ^ (63 - 7 * i) → (0 < i → 0 < n) → Dw (num n ++ rest) i acc = some (acc + n * 2 ^ (7 * i), rest)
 | 0, _, _, _, _, h, _, _, _ => by omega
 | f + 1, n, i, acc, rest, hf, hi, hn, h0 => by
  by_cases hs : n < 128
  ·rw [F7 hs, List.cons_append, List.nil_append, Jc, SE (by omega), if_neg (by omega), if_neg (by omega), if_neg (by omega)]
  ·have hi7 : i ≤ 7 := by
    refine Nat.le_of_not_lt fun h => ?_
    obtain rfl : i = 8 := by omega
    simp at hn
    omega
   rw [Ic hs, List.cons_append, Jc, SE (by omega), if_neg (by omega), if_pos (by omega)]
   have hp : 2 ^ (63 - 7 * i) = 128 * 2 ^ (63 - 7 * (i + 1)) := by rw [show 63 - 7 * i = 7 + (63 - 7 * (i + 1)) from by omega, Nat.pow_add]
   have hq : 2 ^ (7 * (i + 1)) = 128 * 2 ^ (7 * i) := by rw [show 7 * (i + 1) = 7 + 7 * i from by omega, Nat.pow_add]
   rw [RY f (n / 128) (i + 1) _ rest (by omega) (by omega) (by omega) (fun _ => by omega)]
   congr 2
   rw [hq, show 128 + n % 128 - 128 = n % 128 from by omega, Nat.add_assoc]
   congr 1
   have : n = n % 128 + n / 128 * 128 := by omega
   generalize n % 128 = a at *;generalize n / 128 = b at *;rw [this, Nat.add_mul];congr 1
   rw [Nat.mul_assoc]
theorem Ie (n : Nat) (rest : By) (b : Bool) (h : n < 2 ^ 63) : R.num ⟨num n ++ rest, b⟩ = (n, ⟨rest, b⟩) := by
 unfold R.num;have := RY (n + 1) n 0 0 rest (by omega) (by omega) (by simpa using h) (by simp)
 simp only [Nat.zero_add, Nat.mul_zero, Nat.pow_zero, Nat.mul_one] at this;simp only [this]
theorem ND (s rest : By) : R.take ⟨s ++ rest, false⟩ s.length = (s, ⟨rest, false⟩) := by
 unfold R.take;rw [if_neg (by simp)]
 simp
theorem Cd (s rest : By) (h : s.length < 2 ^ 63) : R.text ⟨text s ++ rest, false⟩ = (s, ⟨rest, false⟩) := by
 unfold R.text text;rw [List.append_assoc, Ie _ _ _ h];exact ND s rest
theorem QG : ∀ (l : List By) (rest : By), (∀ s ∈ l, s.length < 2 ^ 63) → R.texts l.length ⟨(l.map text).flatten ++ rest, false⟩ = (l, ⟨rest, false⟩)
 | [], rest, _ => rfl
 | s :: l, rest, h => by
  rw [List.length_cons, List.map_cons, List.flatten_cons, List.append_assoc];unfold R.texts;rw [Cd _ _ (h s (by simp))]
  simp only [Bool.false_eq_true, if_false];rw [QG l rest fun x hx => h x (by simp [hx])]
theorem T8 : ∀ (l : List By), l.length ≤ (l.map text).flatten.length
 | [] => Nat.le_refl _
 | s :: l => by
  have := T8 l;have h2 := Mq s.length;have h3 : (text s).length = (num s.length).length + s.length := by unfold text; rw [List.length_append]
  rw [List.map_cons, List.flatten_cons, List.length_append, List.length_cons];omega
theorem OA (l : List By) (rest : By) (hl : l.length < 2 ^ 63) (h : ∀ s ∈ l, s.length < 2 ^ 63) : R.list ⟨list l ++ rest, false⟩ = (l, ⟨rest, false⟩) := by
 unfold R.list list;rw [List.append_assoc, Ie _ _ _ hl];have hc : ¬ ((l.map text).flatten ++ rest).length < l.length := by have := T8 l; rw [List.length_append]; omega
 simp only [if_neg hc, QG l rest h];simp
theorem ZbR (n : Int) (rest : By) (b : Bool) (h0 : 0 ≤ n) (h : n < 9223372036854775808) : R.num ⟨Ah n ++ rest, b⟩ = (n.toNat, ⟨rest, b⟩) := by
 unfold Ah;rw [if_neg (by omega)]
 exact Ie _ _ _ (by omega)
end Co
end
section
namespace Sm
open Go
def KK (r : BitVec 32) : BitVec 32 := if ES (r &&& 1#32) 1#32 then (r >>> 1) ^^^ 0x82f63b78#32 else r >>> 1
def Jw : Nat → BitVec 32 → BitVec 32
 | 0, r => r
 | n + 1, r => KK (Jw n r)
def Vx (r : BitVec 32) (b : UInt8) : BitVec 32 := Jw 8 (r ^^^ bw b)
def G3 (l : List UInt8) : BitVec 32 := l.foldl Vx 0xffffffff#32
def crc (l : List UInt8) : BitVec 32 := ~~~ (G3 l)
theorem U8 (a : BitVec 32) (h : ES (a &&& 1#32) 1#32 = true) : (a >>> 1) ^^^ 0x82f63b78#32 = KK a := by rw [KK, if_pos h]
theorem U9 (a : BitVec 32) (h : ES (a &&& 1#32) 1#32 = false) : a >>> 1 = KK a := by rw [KK, h]; rfl
theorem Vj (l : List UInt8) (b : UInt8) : G3 (l ++ [b]) = Vx (G3 l) b := by simp [G3]
theorem QI (s : ByteArray) (k : Nat) (h : k < s.size) : s.data.toList.take (k + 1) = s.data.toList.take k ++ [s[k]] := by
 rw [List.take_succ_eq_append_getElem (by simpa using h)]; rfl
theorem JS (s : ByteArray) (k : Nat) (h : ¬ k < s.size) : s.data.toList.take k = s.data.toList := List.take_of_length_le (by simp; omega)
def JL (a b c d : UInt8) : BitVec 32 := (bw a <<< 24) ||| (bw b <<< 16) ||| (bw c <<< 8) ||| bw d
def Lg (l : List UInt8) (i : Nat) : BitVec 32 := JL (l.getD (4 * i) 0) (l.getD (4 * i + 1) 0) (l.getD (4 * i + 2) 0) (l.getD (4 * i + 3) 0)
def CR (x : BitVec 32) (n : Nat) : BitVec 32 := (x <<< (32 - n)) ||| (x >>> n)
def BX (x : BitVec 32) : BitVec 32 := CR x 7 ^^^ CR x 18 ^^^ x >>> 3
def Q4 (x : BitVec 32) : BitVec 32 := CR x 17 ^^^ CR x 19 ^^^ x >>> 10
def ER (l : List UInt8) (k : Nat) : List (BitVec 32) := (List.range k).map (Lg l)
def Mt (ws : List (BitVec 32)) (i : Nat) : BitVec 32 := ws.getD (i - 16) 0 + BX (ws.getD (i - 15) 0) + ws.getD (i - 7) 0 + Q4 (ws.getD (i - 2) 0)
def BF (l : List UInt8) : Nat → List (BitVec 32)
 | 0 => ER l 16
 | n + 1 => BF l n ++ [Mt (BF l n) (16 + n)]
def CQ (l : List UInt8) : List (BitVec 32) := BF l 48
theorem L8 (l : List UInt8) (n : Nat) : (BF l n).length = 16 + n := by
 induction n with
 | zero => simp [BF, ER]
 | succ n ih => simp [BF, ih]; omega
theorem O8 (l : List UInt8) (k : Nat) : (ER l k).length = k := by simp [ER]
theorem Ud (l : List UInt8) (k : Nat) : ER l (k + 1) = ER l k ++ [Lg l k] := by simp [ER, List.range_succ]
theorem I3 (l : List UInt8) : (CQ l).length = 64 := by rw [CQ, L8]
theorem ZcB {α : Type} (l : List α) (x d : α) (j : Nat) : (l ++ [x]).getD j d = if j = l.length then x else l.getD j d := by
 simp only [List.getD_eq_getElem?_getD, List.getElem?_append]
 split
 ·rename_i h; rw [if_neg (by omega)]
 ·rename_i h
  by_cases hj : j = l.length
  ·subst hj; simp
  ·rw [if_neg hj, List.getElem?_eq_none (by simp; omega), List.getElem?_eq_none (by omega)]
theorem Zdr (s : ByteArray) (a b i : Nat) (h : a + i < b) (hb : b ≤ s.size) (h' : i < (s.extract a b).size) : (s.extract a b)[i] = s.data.toList.getD (a + i) 0 := by
 have hs : s.data.size = s.size := rfl;rw [ByteArray.getElem_extract, List.getD_eq_getElem?_getD, List.getElem?_eq_getElem (by simp; omega)]
 rfl
def Ed : List (BitVec 32) := [1116352408, 1899447441, 3049323471, 3921009573, 961987163, 1508970993, 2453635748, 2870763221, 3624381080, 310598401, 607225278, 1426881987, 1925078388, 2162078206, 2614888103, 3248222580, 3835390401, 4022224774, 264347078, 604807628, 770255983, 1249150122, 1555081692, 1996064986, 2554220882, 2821834349, 2952996808, 3210313671, 3336571891, 3584528711, 113926993, 338241895, 666307205, 773529912, 1294757372, 1396182291, 1695183700, 1986661051, 2177026350, 2456956037, 2730485921, 2820302411, 3259730800, 3345764771, 3516065817, 3600352804, 4094571909, 275423344, 430227734, 506948616, 659060556, 883997877, 958139571, 1322822218, 1537002063, 1747873779, 1955562222, 2024104815, 2227730452, 2361852424, 2428436474, 2756734187, 3204031479, 3329325298]
structure S8 where
 a : BitVec 32
 b : BitVec 32
 c : BitVec 32
 d : BitVec 32
 e : BitVec 32
 f : BitVec 32
 g : BitVec 32
 h : BitVec 32
def S8.list (s : S8) : List (BitVec 32) := [s.a, s.b, s.c, s.d, s.e, s.f, s.g, s.h]
def S8.cells (s : S8) : List Value := [Ag s.a, Ag s.b, Ag s.c, Ag s.d, Ag s.e, Ag s.f, Ag s.g, Ag s.h]
theorem Ix (s : S8) : s.cells.length = 8 := rfl
theorem ZeA (s : S8) : s.cells.toArray.size = 8 := rfl
theorem Vu (s t : S8) : s.cells.length = t.cells.toArray.size := (Ix s).trans (ZeA t).symm
def S8.add (s t : S8) : S8 := ⟨s.a + t.a, s.b + t.b, s.c + t.c, s.d + t.d, s.e + t.e, s.f + t.f, s.g + t.g, s.h + t.h⟩
def SC (k x : BitVec 32) (s : S8) : BitVec 32 := s.h + (CR s.e 6 ^^^ CR s.e 11 ^^^ CR s.e 25) + ((s.e &&& s.f) ^^^ (~~~ s.e &&& s.g)) + k + x
def Yv (s : S8) : BitVec 32 := (CR s.a 2 ^^^ CR s.a 13 ^^^ CR s.a 22) + ((s.a &&& s.b) ^^^ (s.a &&& s.c) ^^^ (s.b &&& s.c))
def I9 (k x : BitVec 32) (s : S8) : S8 := ⟨SC k x s + Yv s, s.a, s.b, s.c, s.d + SC k x s, s.e, s.f, s.g⟩
def H7 (l : List UInt8) (s : S8) : Nat → S8
 | 0 => s
 | n + 1 => I9 (Ed.getD n 0) ((CQ l).getD n 0) (H7 l s n)
def Fb (s : S8) (l : List UInt8) : S8 := s.add (H7 l s 64)
def BA : S8 := ⟨1779033703, 3144134277, 1013904242, 2773480762, 1359893119, 2600822924, 528734635, 1541459225⟩
def Bx (m : Nat) : Nat := (120 - m % 64) % 64
def KV (x : BitVec 64) : List UInt8 := [qb (x >>> 56), qb (x >>> 48), qb (x >>> 40), qb (x >>> 32), qb (x >>> 24), qb (x >>> 16), qb (x >>> 8), qb (x >>> 0)]
def ending (l : List UInt8) (n : Int) : List UInt8 := l ++ [128] ++ List.replicate (Bx (l.length + 1)) 0 ++ KV (BitVec.ofInt 64 n * 8#64)
theorem Np (m : Nat) : Bx m < 64 := Nat.mod_lt _ (by omega)
theorem Nq (m : Nat) : (m + Bx m) % 64 = 56 := by unfold Bx; omega
theorem PX (m z : Nat) (h : z < Bx m) : (m + z) % 64 ≠ 56 := by unfold Bx at h; omega
def CA (l : List UInt8) (z : Nat) : List UInt8 := l ++ [128] ++ List.replicate z 0
theorem ET (l : List UInt8) (z : Nat) : (CA l z).length = l.length + 1 + z := by simp [CA]; omega
theorem UB (l : List UInt8) (z : Nat) : CA l (z + 1) = CA l z ++ [0] := by simp [CA, List.replicate_succ']
def Eb (x : BitVec 64) (j : Nat) : List UInt8 := (KV x).take j
theorem Wc (x : BitVec 64) (j : Nat) (h : j < 8) : Eb x (j + 1) = Eb x j ++ [qb (x >>> (56 - 8 * j))] := by
 rcases j with _ | _ | _ | _ | _ | _ | _ | _ | j
 all_goals first | rfl | omega
theorem Pf (l : List UInt8) (n : Int) : (ending l n).length = l.length + 1 + Bx (l.length + 1) + 8 := by simp [ending, KV]; omega
def Bq (l : List UInt8) (st : S8) : Nat → S8
 | 0 => st
 | n + 1 => Fb (Bq l st n) ((l.drop (64 * n)).take 64)
def EW (x : BitVec 32) : List UInt8 := [wb (x >>> 24), wb (x >>> 16), wb (x >>> 8), wb x]
def I2 (l : List UInt8) : S8 :=
 let st := Bq l BA (l.length / 64)
 let tail := ending (l.drop (64 * (l.length / 64))) l.length
 Bq tail st (tail.length / 64)
def sha (l : List UInt8) : List UInt8 := (I2 l).list.flatMap EW
theorem Yw : ∀ n : Fin 32, 0 < n.val → (BitVec.ofInt 64 (-(n.val : Int)) &&& 31#64).toNat = 32 - n.val ∧ (32#64 - (BitVec.ofInt 64 (-(n.val : Int)) &&& 31#64)).toNat = n.val := by decide +kernel
theorem ZY (x : BitVec 32) (n : Int) (h0 : 0 < n) (h : n < 32) : (x <<< (BitVec.ofInt 64 (-n) &&& 31#64).toNat ||| x >>> (32#64 - (BitVec.ofInt 64 (-n) &&& 31#64)).toNat) = CR x n.toNat := by
 obtain ⟨k, rfl⟩ := Int.eq_ofNat_of_zero_le (Int.le_of_lt h0);have := Yw ⟨k, by omega⟩ (by simp only; omega)
 simp only at this
 rw [this.1, this.2, CR, Int.toNat_natCast]
theorem UA (l : List UInt8) (n : Int) : (ending l n).length % 64 = 0 := by
 rw [Pf];have := Nq (l.length + 1);omega
def BR (l : List UInt8) : Nat → Nat
 | 0 => 0
 | k + 1 => 256 * BR l k + (l.getD k 0).toNat
def num (l : List UInt8) : Nat := BR l 8 / 8
theorem nat8_lt (l : List UInt8) (k : Nat) : BR l k < 256 ^ k := by
 induction k with
 | zero => simp [BR]
 | succ k ih =>
  have := (l.getD k 0).toNat_lt;rw [BR, Nat.pow_succ];omega
theorem SK (l : List UInt8) (k : Nat) (h : k < 8) : (BitVec.ofNat 64 (BR l k) <<< 8 ||| bq (l.getD k 0)) = BitVec.ofNat 64 (BR l (k + 1)) := by
 have hlt := nat8_lt l k;have hp : 256 ^ k ≤ 256 ^ 7 := Nat.pow_le_pow_right (by omega) (by omega)
 have hb := (l.getD k 0).toNat_lt;rw [BR];apply BitVec.eq_of_toNat_eq
 rw [BitVec.toNat_or, BitVec.toNat_shiftLeft, BitVec.toNat_ofNat, BitVec.toNat_ofNat, Nat.shiftLeft_eq];have hq : (bq (l.getD k 0)).toNat = (l.getD k 0).toNat := by
  unfold bq;rw [BitVec.toNat_setWidth, UInt8.toNat_toBitVec, Nat.mod_eq_of_lt (by omega)]
 rw [hq];generalize (l.getD k 0).toNat = b at hb ⊢;generalize BR l k = n at hlt ⊢;have h1 : n % 2 ^ 64 = n := Nat.mod_eq_of_lt (by omega)
 rw [h1];have h2 : n * 2 ^ 8 % 2 ^ 64 = n * 2 ^ 8 := Nat.mod_eq_of_lt (by omega)
 rw [h2, nat_join 8 (n * 2 ^ 8) b (by omega) (by omega)]
 omega
theorem ZbL (l : List UInt8) (k : Nat) (h : k < 8) (hk : l.length ≤ k) : BitVec.ofNat 64 (BR l k) <<< 8 = BitVec.ofNat 64 (BR l (k + 1)) := by
 have h1 := SK l k h;have h0 : l.getD k 0 = 0 := by simp [List.getD_eq_getElem?_getD, List.getElem?_eq_none hk]
 rw [h0] at h1;rw [← h1];simp [bq]
theorem ZbP (l : List UInt8) : OR ((BitVec.ofNat 64 (BR l 8)) >>> 3) = (num l : Int) := by
 unfold OR;have hlt := nat8_lt l 8;have h1 : ((BitVec.ofNat 64 (BR l 8)) >>> 3).toNat = num l := by
  rw [BitVec.toNat_ushiftRight, BitVec.toNat_ofNat, Nat.mod_eq_of_lt (by omega), Nat.shiftRight_eq_div_pow]; rfl
 rw [BitVec.toInt_eq_toNat_of_lt (by rw [h1]; unfold num; omega), h1]
theorem ZbT {y : ByteArray} (h : 0 < y.size) : y.toList.isEmpty = false := by
 rw [ByteArray.toList_eq]
 have : y.data.toList.length = y.size := by simp
 cases hh : y.data.toList with
 | nil => rw [hh] at this; simp at this; omega
 | cons a l => rfl
theorem ZdG {y : ByteArray} (h : ¬ 0 < y.size) : y.toList.isEmpty = true := by
 rw [ByteArray.toList_eq]
 have : y.data.toList.length = y.size := by simp
 cases hh : y.data.toList with
 | nil => rfl
 | cons a l => rw [hh] at this; simp at this; omega
theorem Zd7 (st : S8) (j : Nat) (h : j < 8) : (st.list.take (j + 1)).flatMap EW = (st.list.take j).flatMap EW ++ EW (st.list.getD j 0) := by
 rcases j with _ | _ | _ | _ | _ | _ | _ | _ | j
 all_goals first | rfl | omega
theorem Q3 (r : ByteArray) (h : 64 ≤ r.size) : (r.extract 0 64).size = 64 := by rw [ByteArray.size_extract]; omega
theorem QL (r : ByteArray) : (r.extract 0 64).data.toList = r.data.toList.take 64 := by
 simp [ByteArray.data_extract]
theorem UU (r : ByteArray) (b : Nat) (h : r.size ≤ b) : (r.extract 64 b).data.toList = r.data.toList.drop 64 := by
 have : r.data.toList.length = r.size := by simp
 rw [ByteArray.data_extract, Array.toList_extract, List.extract_eq_take_drop, List.take_of_length_le (by simp; omega)]
end Sm
end
end Go.Proofs.YtldohjjoicmfpaaGreatDoor
