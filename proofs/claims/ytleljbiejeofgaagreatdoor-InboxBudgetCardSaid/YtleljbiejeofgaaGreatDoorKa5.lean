/- Several texts in one, without what this claim does not use (tools/shake.py). -/
import Derived.Test.YtleljbiejeofgaaGreatDoorKa4
import Derived.Below
import Derived.ChangeSame
import Derived.ProofKit
import Derived.OpenShut
import Derived.ShutString
import Derived.Deep.Strs
import Derived.SizedLaws
import Derived.Deep.Slices
import Derived.ChangeArms
import Derived.Laws.Entries
set_option linter.unusedSectionVars false
set_option linter.unusedVariables false
set_option linter.unusedSimpArgs false
section
namespace Go.Proofs.YtleljbiejeofgaaGreatDoor.Pe
open Go Go.RowKit
variable [Tab]
structure AO where
 dst : Option Nat
 op : Op
 gd : Option (Option Nat × Bool)
inductive CC where
 | skip | rfunc (N : Nat) (g : Operand) (ps : Array Tmp) (asn bdy : Code) | reg (l : List AO) | seq (a b : CC) | cond (c : Operand) (t f : CC) | block (id : Nat) (b : CC) | loop (b : CC) | exit (id : Nat) | ret | bad
inductive AX where
 | norm | exit (id : Nat) | ret
def eraseO (ops : Array Oper) (o : Oper) : AO := ⟨o.dst, o.op, match o.guard with
 | none => none
 | some (j, want) => some ((ops[j]?).bind (·.dst), want)⟩
def eraseG (k : Option Nat) : Code → CC
 | .skip => .skip
 | .label _ => .skip
 | .region _ ops _ => .reg (ops.toList.map (eraseO ops))
 | .seq a b => .seq (eraseG k a) (eraseG k b)
 | .cond c a b => .cond c (eraseG k a) (eraseG k b)
 | .block id b => .block id (eraseG k b)
 | .loop b => .loop (eraseG k b)
 | .exit id => .exit id
 | .ret => .ret
 | .rangeFunc g ps asn bdy => match k with
  | some N => .rfunc N g ps asn bdy
  | none => .bad
 | _ => .bad
abbrev eraseC : Code → CC := eraseG none
def noRF : Code → Bool
 | .seq a b => noRF a && noRF b
 | .cond _ a b => noRF a && noRF b
 | .block _ b => noRF b
 | .loop b => noRF b
 | .rangeFunc _ _ _ _ => false
 | _ => true
def envL (N : Nat) (e : Env) : List AV := (List.range N).map e
def aGd (gd : Option (Option Nat × Bool)) (e : Env) : Option Bool :=
 match gd with
 | none => some true
 | some (none, _) => some false
 | some (some d, want) => match e d with
  | .bo b => some (b == want)
  | .tup [] => some false
  | _ => none
def ARg (P : Program) (pf rf : List FuncId) : List AO → Env → Store → (Env → Store → Prop) → Prop
 | [], e, S, K => K e S
 | o :: rest, e, S, K => bindO (aGd o.gd e) fun b => iteP b (AOp P pf rf o.op e S fun v S' => ARg P pf rf rest (put e o.dst v) S' K) (ARg P pf rf rest (put e o.dst (.tup [])) S K)
def Weak (N0 : Nat) (e : Env) (S : Store) (e' : Env) (S' : Store) : Prop :=
 ∀ (N : Nat) (w0 : World) (g0 : Gh) (a : Act) (w : World), g0.nid = N0 → Conc N w0 g0 e S a w → Conc N w0 g0 e' S' a w
def thenQ (Q : AX → Env → Store → Prop) (next : Env → Store → Prop) : AX → Env → Store → Prop
 | .norm => next
 | x => Q x
def roundP (N0 : Nat) (I : Nat → Env → Store → Prop) (n : Nat) (e : Env) (S : Store) : Prop := ∃ n' e' S', n' < n ∧ Weak N0 e S e' S' ∧ I n' e' S'
def ALoop (N0 : Nat) (B : (AX → Env → Store → Prop) → Env → Store → Prop) (Q : AX → Env → Store → Prop) (e : Env) (S : Store) : Prop :=
 ∃ I : Nat → Env → Store → Prop, (∃ n e' S', Weak N0 e S e' S' ∧ I n e' S') ∧ ∀ n e S, I n e S → B (thenQ Q (roundP N0 I n)) e S
def blockQ (id : Nat) (Q : AX → Env → Store → Prop) : AX → Env → Store → Prop
 | .exit i => if i = id then Q .norm else Q (.exit i)
 | x => Q x
def ARF (P : Program) (N : Nat) (g : Operand) (ps : Array Tmp) (asn bdy : Code) (K : Env → Store → Prop) (e : Env) (S : Store) : Prop :=
 match ev e g with
 | .fn (.func f) fa ca => ∃ v S' U, S'.length = S.length ∧ (∀ b D fn, AC P f (fa ++ [.fn (.yield b) [] []] ++ ca) (S ++ [.loop b D fn (envL N e) ps asn bdy .ready]) v (S' ++ .loop b D fn (envL N e) ps asn bdy .ready :: U)) ∧ K e (S' ++ .dead :: U)
 | _ => False
def AW (P : Program) (pf rf : List FuncId) (N0 : Nat) : CC → (AX → Env → Store → Prop) → Env → Store → Prop
 | .skip, Q, e, S => Q .norm e S
 | .reg l, Q, e, S => ARg P pf rf l e S (Q .norm)
 | .seq a b, Q, e, S => AW P pf rf N0 a (thenQ Q (AW P pf rf N0 b Q)) e S
 | .cond c t f, Q, e, S => match ev e c with
  | .bo b => iteP b (AW P pf rf N0 t Q e S) (AW P pf rf N0 f Q e S)
  | _ => False
 | .block id b, Q, e, S => AW P pf rf N0 b (blockQ id Q) e S
 | .loop b, Q, e, S => ALoop N0 (AW P pf rf N0 b) Q e S
 | .exit id, Q, e, S => Q (.exit id) e S
 | .ret, Q, e, S => Q .ret e S
 | .rfunc N g ps asn bdy, Q, e, S => ∃ e1 S1, Weak N0 e S e1 S1 ∧ ARF P N g ps asn bdy (Q .norm) e1 S1
 | .bad, _, _, _ => False
def codeOk (P : Program) (pf rf : List FuncId) (N : Nat) : Code → Bool
 | .region _ ops draw => dstsOk N ops && (!draw || lexOk (clsOf P pf rf) ops)
 | .seq a b => codeOk P pf rf N a && codeOk P pf rf N b
 | .cond _ a b => codeOk P pf rf N a && codeOk P pf rf N b
 | .block _ b => codeOk P pf rf N b
 | .loop b => codeOk P pf rf N b
 | .rangeFunc _ _ asn bdy => noRF asn && noRF bdy
 | _ => true
def toQ (N : Nat) (w0 : World) (g0 : Gh) (Q : AX → Env → Store → Prop) : Exit → Act → World → Prop
 | .normal, a, w => ∃ e S, Conc N w0 g0 e S a w ∧ Q .norm e S
 | .exit id, a, w => ∃ e S, Conc N w0 g0 e S a w ∧ Q (.exit id) e S
 | .ret, a, w => ∃ e S, Conc N w0 g0 e S a w ∧ Q .ret e S
 | _, _, _ => False
section
variable {P : Program} {N N0 : Nat} {w0 : World} {g0 : Gh} {pf rf : List FuncId}
theorem wpL_of_ARg {ops : Array Oper} {Q : Env → Store → Prop} : ∀ (l : List Oper) (e : Env) (S : Store), ARg P pf rf (l.map (eraseO ops)) e S Q → wpL P (clsOf P pf rf) ops Q l e S
 | [], e, S, h => h
 | o :: rest, e, S, h => by
  simp only [List.map_cons, ARg] at h
  have hg : aGd (eraseO ops o).gd e = aWant ops o e := by
   unfold eraseO aWant
   cases hgd : o.guard with
   | none => rfl
   | some p =>
    obtain ⟨j, want⟩ := p
    simp only [aGd, aYield]
    cases hd : (ops[j]?).bind (·.dst) with
    | none => cases want <;> rfl
    | some d =>
     simp only
     cases he : e d with
     | bo b => cases b <;> cases want <;> rfl
     | tup vs => cases vs <;> cases want <;> rfl
     | _ => rfl
  rw [hg] at h
  unfold wpL
  obtain ⟨b, hb, h⟩ := bindO_spec h
  ·simp only [hb]
   cases b with
   | true =>
    obtain ⟨v, S', h1, h2⟩ := AOp_ok (o := o) (h.1 rfl)
    exact ⟨v, S', h1, wpL_of_ARg rest _ _ h2⟩
   | false => exact wpL_of_ARg rest _ _ (h.2 rfl)
theorem Le.below {w w' : World} (g : Gh) (h : Below w.heap.size w w') : Le w g w' g :=
 ⟨fun b o v _ hv => by rw [World.cell?_of_block (w := w) (w' := w') (h.block b (World.block_lt_of_cell? w _ hv))]; exact hv, fun _ _ _ h _ => h, Nat.le_refl _, fun _ _ => ⟨rfl, .inl ⟨rfl, rfl, rfl⟩⟩, fun b me c h h' => ⟨h, by rw [Below.block ‹_› b (Array.getElem?_eq_some_iff.1 h').1]; exact h'⟩⟩
theorem WF.below {w w' : World} {g : Gh} {S : Store} (hw : WF w g S) (h : Below w.heap.size w w') : WF w' g S := by
 refine ⟨hw.nid, fun l o hl => ?_, hw.disj, fun l b hl hb => ?_, hw.tab.le (Le.below g h)⟩
 ·have hlt : l < g.nid := by rw [hw.nid]; exact (List.getElem?_eq_some_iff.1 hl).1
  exact (hw.obj l o hl).keep (Le.below g h) rfl rfl rfl rfl rfl (fun _ _ => rfl) (fun b hb => h.block b (hw.lt l b hlt hb))
 ·have := hw.lt l b hl hb
  have := h.size
  omega
theorem Evo.below {w w' : World} (g : Gh) (h : Below w.heap.size w w') : Evo w g w' g :=
 ⟨Le.below g h, h.os, h.tape, h.output, h.size, fun b hb _ => h.block b hb, fun _ _ hl hb _ => ⟨hl, hb⟩, fun _ _ _ => rfl⟩
theorem wpIn_loop_ghost {F : Fence} {n : Nat} {P : Program} {Q : Exit → Act → World → Prop} {a : Act} {w : World} {c : Code} (I : Nat → Act → World → Prop) (n₀ : Nat) (h₀ : I n₀ a w)
  (round : ∀ n' a w, I n' a w → c.wpIn F n P (Exit.then (fun a' w' => ∃ n'', n'' < n' ∧ I n'' a' w') Q) a w) : (Code.loop c).wpIn F n P Q a w := by
 refine wpIn_loop (fun a w => ∃ n, I n a w) (fun a w => leastOf (fun n => I n a w)) ⟨n₀, h₀⟩ ?_
 intro a w hI
 refine Go.wpIn_mono (round _ a w (leastOf_spec hI).1) ?_
 intro e a' w' hq
 cases e with
 | normal =>
  obtain ⟨n', hlt, hI'⟩ := hq
  exact show (∃ n, I n a' w') ∧ leastOf (fun n => I n a' w') < leastOf (fun n => I n a w) from ⟨⟨n', hI'⟩, Nat.lt_of_le_of_lt ((leastOf_spec ⟨n', hI'⟩).2 n' hI') hlt⟩
 | exit id => exact hq
 | goto l => exact hq
 | ret => exact hq
 | panic ch => exact hq
 | outgrown => exact hq
theorem ERel.le {w w' : World} {g g' : Gh} {e : Env} {a : Act} (h : ERel w g e a) (hl : Le w g w' g') : ERel w' g' e a := fun t => (h t).le hl
theorem envL_rel {w : World} {g : Gh} {e : Env} {a : Act} (h : ERel w g e a) : ∀ (j : Nat) u x, (envL a.tmps.size e)[j]? = some u → a.tmps[j]? = some x → Rel w g u x := by
 intro j u x hu hx
 unfold envL at hu
 rw [List.getElem?_map] at hu
 obtain ⟨y, hy, rfl⟩ := Option.map_eq_some_iff.1 hu
 have hj : y = j := by
  rw [List.getElem?_range (by have := (List.getElem?_eq_some_iff.1 hy).1; simpa using this)] at hy
  simpa using hy.symm
 subst hj
 have := h y
 rw [Array.getD_eq_getD_getElem?, hx] at this
 exact this
theorem ARF_ok {g : Operand} {ps : Array Tmp} {asn bdy : Code} {Q : AX → Env → Store → Prop} {e : Env} {S : Store} {a : Act} {w : World} (hc : Conc N w0 g0 e S a w) (h : ARF P N g ps asn bdy (Q .norm) e S) :
  (Code.rangeFunc g ps asn bdy).wpIn (wR none) 0 P (toQ N w0 g0 Q) a w := by
 obtain ⟨hsz, _, gh, hw, he, hD⟩ := hc
 unfold ARF at h
 split at h
 ·rename_i f fa ca hf
  obtain ⟨v, S', U, hlen, hac, hK⟩ := h
  refine wpIn_rangeFunc fun fn _ => ?_
  have hgv := ev_ok he g
  rw [hf] at hgv
  generalize hcf : a.eval g = cf at hgv
  cases hgv with
  | fn _ _ _ _ fav cav hfs hcs hrf hrc =>
   have hB : Below w.heap.size w (w.alloc (.deferred (some []))) := (Below.refl _ w).alloc (Nat.le_refl _) _
   have hw1 := hw.below hB
   have hE1 := Evo.below gh hB
   have hsz1 : (w.alloc (.deferred (some []))).heap.size = w.heap.size + 1 := by simp
   let r : Loop := { state := .ready, pending := none, fn, tmps := a.tmps, params := ps, assign := asn, body := bdy, defers := w.heap.size }
   have hpush := hw1.alloc_push (.loop r) false 0 0 0 (o := .loop (w.heap.size + 1) w.heap.size fn (envL N e) ps asn bdy .ready) (by
    refine ⟨by simp [Gh.push], by simp [Gh.push], by simp [Gh.push], by simp [Gh.push], a.tmps, ?_, by simp [envL, hsz], ?_⟩
    ·simp only [Gh.push, if_true]
     exact World.alloc_heap_new _ _
    ·have := envL_rel (he.le (hE1.toLe.trans (Le.push_new _ gh (.loop r) false 0 0 0)))
     rw [hsz] at this
     exact this)
   obtain ⟨hw2, hE2⟩ := hpush
   have hE := hE1.trans hE2
   have hfb : (Instr.enterLoop fn a.tmps ps asn bdy (wR none).round).run P w = .ok (w.heap.size + 1, [{ target := .collected w.heap.size, args := #[] }]) ((w.alloc (.deferred (some []))).alloc (.loop r)) := run_enterLoop_outer fn a.tmps ps asn bdy
   have hres : ∀ w', (resolve a.eval (rangeCall g (w.heap.size + 1)) 0).run P w' = .ok { target := .fn (.func f) cav, args := fav ++ #[.func (.yield (w.heap.size + 1)) #[] #[]] } w' := fun w' => by
    simp only [resolve, rangeCall, hcf, Deferred.ofValue, Sem.run_bind, Sem.run_pure, Result.andThen_ok, List.map_toArray, List.map_cons, List.map_nil]
    rfl
   have hac' := hac (w.heap.size + 1) w.heap.size fn
   refine ⟨w.heap.size + 1, _, _, _, _, f, fav ++ #[.func (.yield (w.heap.size + 1)) #[] #[]] ++ cav, (w.alloc (.deferred (some []))).alloc (.loop r), hfb, hres _, fun _ _ => trivial, ?_, fun q => by simp [wR, Fence.wide] at q, ?_⟩
   ·simp only [invoke]
    exact run_callFunc hac'.can _ _
   ·have hyl : ∀ w' g', Rel w' g' (.fn (.yield (w.heap.size + 1)) [] []) (.func (.yield (w.heap.size + 1)) #[] #[]) := fun w' g' => .fn g' (.yield (w.heap.size + 1)) [] [] #[] #[] rfl rfl (by simp) (by simp)
    have hargs : LRel ((w.alloc (.deferred (some []))).alloc (.loop r)) (gh.push (w.alloc (.deferred (some []))).heap.size false 0 0 0) (fa ++ [.fn (.yield (w.heap.size + 1)) [] []] ++ ca) (fav ++ #[.func (.yield (w.heap.size + 1)) #[] #[]] ++ cav) := by
     refine ⟨by simp [hfs, hcs]; omega, fun j u x hu hx => ?_⟩
     have hx' : (fav.toList ++ [.func (.yield (w.heap.size + 1)) #[] #[]] ++ cav.toList)[j]? = some x := by
      rw [← hx, ← Array.getElem?_toList]
      simp
     have l1 : fav.toList.length = fa.length := by simpa using hfs
     rw [List.append_assoc, List.getElem?_append] at hu hx'
     rw [l1] at hx'
     split at hu
     ·rename_i h1
      rw [if_pos h1] at hx'
      exact (hrf j u x hu (by simpa using hx')).le hE.toLe
     ·rename_i h1
      rw [if_neg h1] at hx'
      cases hj : j - fa.length with
      | zero =>
       rw [hj] at hu hx'
       simp at hu hx'
       subst hu; subst hx'
       exact hyl _ _
      | succ m =>
       rw [hj] at hu hx'
       simp at hu hx'
       exact (hrc m u x hu (by simpa using hx')).le hE.toLe
    refine (calls_wR (hac'.run _ _ _ hw2 hargs) none _).mono ?_
    rintro r' w3 ⟨cv, g3, rfl, hw3, _, hE3⟩
    have hl3 : (S' ++ .loop (w.heap.size + 1) w.heap.size fn (envL N e) ps asn bdy .ready :: U)[S.length]? = some (.loop (w.heap.size + 1) w.heap.size fn (envL N e) ps asn bdy .ready) := by
     rw [← hlen, List.getElem?_append_right (Nat.le_refl _), Nat.sub_self]; rfl
    obtain ⟨b1, b2, b3, b4, tm, b5, b6, b7⟩ := hw3.obj _ _ hl3
    rw [b4] at b5
    refine ⟨none, _, run_endLoop b5 (by simp), ?_⟩
    have hput := hw3.put (o := .dead) (ob := .loop { state := .exhausted, pending := none, fn, tmps := tm, params := ps, assign := asn, body := bdy, defers := w.heap.size }) (List.getElem?_eq_some_iff.1 hl3).1 b2 b3 trivial
    obtain ⟨hw4, hE4⟩ := hput
    rw [b4] at hw4 hE4
    have hset : (S' ++ SObj.loop (w.heap.size + 1) w.heap.size fn (envL N e) ps asn bdy .ready :: U).set S.length .dead = S' ++ .dead :: U := by
     rw [← hlen, List.set_append_right _ _ (Nat.le_refl _), Nat.sub_self]; rfl
    rw [hset] at hw4
    have hEall := (hE.trans hE3).trans hE4
    refine ⟨e, S' ++ .dead :: U, ⟨hsz, trivial, g3, hw4, he.le hEall.toLe, ?_⟩, hK⟩
    have hD' := hD.trans hEall
    refine ⟨hD'.toEvo, fun d hd => ?_, ?_⟩
    ·simp only [List.cons_append, List.nil_append, List.mem_cons] at hd
     rcases hd with rfl | hd
     ·have hno : ∀ l, l < (gh.push (w.alloc (.deferred (some []))).heap.size false 0 0 0).nid → ¬ (gh.push (w.alloc (.deferred (some []))).heap.size false 0 0 0).own l w.heap.size := by
       intro l hl ho
       simp only [Gh.push, hsz1] at hl ho
       split at ho
       ·omega
       ·have := hw.lt l _ (by omega) ho
        omega
      have hlt2 : w.heap.size < ((w.alloc (.deferred (some []))).alloc (.loop r)).heap.size := by simp; omega
      have hE34 := hE3.trans hE4
      refine ⟨w.heap.size, rfl, hD.size, Nat.lt_of_lt_of_le hlt2 hE34.size, ?_, fun l hl ho => ?_⟩
      ·exact (hE34.old _ hlt2 hno).trans ((hE2.old _ (by simp) (fun l hl ho => by have := hw.lt l _ hl ho; omega)).trans (World.alloc_heap_new _ _))
      ·have := hE34.own l _ hl ho hlt2
       exact hno l this.1 this.2
     ·exact hD'.defs d hd
    ·simp only [List.cons_append, List.nil_append, List.map_cons, List.nodup_cons]
     refine ⟨fun hm => ?_, hD.nodup⟩
     obtain ⟨d, hd, hdt⟩ := List.mem_map.1 hm
     obtain ⟨b, q1, _, q3, _⟩ := hD.defs d hd
     rw [hdt] at q1
     cases q1
     omega
 ·exact h.elim
theorem AW_okG (k : Option Nat) (hk : ∀ M, k = some M → M = N) (ro : Option Nat) (hm : P.follows .mixedOrders = true) (hN0 : g0.nid = N0) : ∀ (c : Code) (Q : AX → Env → Store → Prop) (e : Env) (S : Store) (a : Act) (w : World), codeOk P pf rf N c = true → (ro = none ∨ noRF c = true) → Conc N w0 g0 e S a w → AW P pf rf N0 (eraseG k c) Q e S → c.wpIn (wR ro) 0 P (toQ N w0 g0 Q) a w := by
 intro c
 induction c with
 | skip => intro Q e S a w _ _ hc h; exact wpIn_skip ⟨e, S, hc, h⟩
 | label l => intro Q e S a w _ _ hc h; exact wpIn_label ⟨e, S, hc, h⟩
 | ret => intro Q e S a w _ _ hc h; exact wpIn_ret ⟨e, S, hc, h⟩
 | exit id => intro Q e S a w _ _ hc h; exact wpIn_exit ⟨e, S, hc, h⟩
 | region id ops draw =>
  intro Q e S a w hok hrf hc h
  simp only [codeOk, Bool.and_eq_true] at hok
  simp only [eraseG, AW] at h
  have hL := wpL_of_ARg ops.toList e S h
  have hQ : ∀ e S a w, Conc N w0 g0 e S a w → Q .norm e S → toQ N w0 g0 Q .normal a w := fun e S a w hc hq => ⟨e, S, hc, hq⟩
  cases draw with
  | false => exact region_list hok.1 hQ hc hL ro
  | true => exact region_draws hm (by simpa using hok.2) hok.1 hQ hc hL ro
 | seq x y ihx ihy =>
  intro Q e S a w hok hrf hc h
  simp only [codeOk, Bool.and_eq_true] at hok
  simp only [eraseG, AW] at h
  refine wpIn_seq (Go.wpIn_mono (ihx _ e S a w hok.1 (hrf.imp id fun q => (by simpa [noRF] using q : _ ∧ _).1) hc h) ?_)
  intro ex a' w' hq
  cases ex with
  | normal => obtain ⟨e', S', hc', h'⟩ := hq; exact ihy Q e' S' a' w' hok.2 (hrf.imp id fun q => (by simpa [noRF] using q : _ ∧ _).2) hc' h'
  | exit id => exact hq
  | ret => exact hq
  | _ => exact hq.elim
 | cond c x y ihx ihy =>
  intro Q e S a w hok hrf hc h
  simp only [codeOk, Bool.and_eq_true] at hok
  simp only [eraseG, AW] at h
  split at h
  ·rename_i b hb
   have hcb : a.eval c = .bool b := by
    obtain ⟨_, _, g, _, h4, _⟩ := hc
    have := ev_ok h4 c
    rw [hb] at this
    cases hv : a.eval c <;> rw [hv] at this <;> cases this
    rfl
   refine wpIn_cond_split hcb (fun ht => ihx Q e S a w hok.1 (hrf.imp id fun q => (by simpa [noRF] using q : _ ∧ _).1) hc (h.1 ht)) (fun hf => ihy Q e S a w hok.2 (hrf.imp id fun q => (by simpa [noRF] using q : _ ∧ _).2) hc (h.2 hf))
  ·exact h.elim
 | block id c ih =>
  intro Q e S a w hok hrf hc h
  simp only [eraseG, AW] at h
  refine wpIn_block (Go.wpIn_mono (ih _ e S a w hok hrf hc h) ?_)
  intro ex a' w' hq
  cases ex with
  | normal => exact hq
  | exit i =>
   obtain ⟨e', S', hc', h'⟩ := hq
   simp only [blockQ] at h'
   simp only [Exit.inBlock]
   by_cases hi : i = id
   ·rw [if_pos hi] at h' ⊢; exact ⟨e', S', hc', h'⟩
   ·rw [if_neg hi] at h' ⊢; exact ⟨e', S', hc', h'⟩
  | ret => exact hq
  | _ => exact hq.elim
 | loop c ih =>
  intro Q e S a w hok hrf hc h
  simp only [eraseG, AW] at h
  obtain ⟨I, ⟨n, e', S', hwk, hI⟩, hround⟩ := h
  refine wpIn_loop_ghost (fun n a w => ∃ e S, Conc N w0 g0 e S a w ∧ I n e S) n ⟨e', S', hwk N w0 g0 a w hN0 hc, hI⟩ ?_
  rintro n a w ⟨e, S, hc, hI⟩
  refine Go.wpIn_mono (ih _ e S a w hok hrf hc (hround n e S hI)) ?_
  intro ex a' w' hq
  cases ex with
  | normal =>
   obtain ⟨e1, S1, hc1, n', e2, S2, hlt, hwk', hI'⟩ := hq
   exact ⟨n', hlt, e2, S2, hwk' N w0 g0 a' w' hN0 hc1, hI'⟩
  | exit i => exact hq
  | ret => exact hq
  | _ => exact hq.elim
 | rangeFunc g ps asn bdy _ _ =>
  intro Q e S a w hok hrf hc h
  rcases hrf with rfl | hrf
  ·simp only [eraseG] at h
   cases k with
   | none => exact h.elim
   | some M =>
    have hMN := hk M rfl
    subst hMN
    obtain ⟨e1, S1, hwk, h⟩ := h
    exact ARF_ok (hwk M w0 g0 a w hN0 hc) h
  ·cases hrf
 | _ => intro Q e S a w _ _ _ h; exact h.elim
theorem AW_ok {c : Code} (ro : Option Nat) (hrf : ro = none ∨ noRF c = true) (hm : P.follows .mixedOrders = true) (hN0 : g0.nid = N0) (Q : AX → Env → Store → Prop) (e : Env) (S : Store) (a : Act) (w : World) (hok : codeOk P pf rf N c = true) (hc : Conc N w0 g0 e S a w) (h : AW P pf rf N0 (eraseC c) Q e S) : c.wpIn (wR ro) 0 P (toQ N w0 g0 Q) a w :=
 AW_okG none (fun _ e => by cases e) ro hm hN0 c Q e S a w hok hrf hc h
end
def aRes (P : Program) (rs : List ResultVar) (e : Env) (S : Store) : Option (List AV) :=
 match rs with
 | [] => some []
 | .tmp t :: rest => (aRes P rest e S).map (e t :: ·)
 | .cell a t :: rest => match aLoad (szOf P t) S (e a), aRes P rest e S with
  | some v, some vs => some (v :: vs)
  | _, _ => none
def resV : List AV → AV
 | [v] => v
 | vs => .tup vs
def argEnv (args : List AV) : Env := fun t => args.getD t .junk
def Fin (P : Program) (rs : List ResultVar) (N0 : Nat) (v : AV) (S' : Store) (e : Env) (S : Store) : Prop :=
 ∃ e1 S1 vs κ, Weak N0 e S e1 S1 ∧ aRes P rs e1 S1 = some vs ∧ SubOk κ S1 S' ∧ κ.take N0 = List.range N0 ∧ v.ok κ.length = true ∧ (resV vs = v.ren (idx κ) ∨ (resV vs).wk = v.ren (idx κ))
def finQ (P : Program) (rs : List ResultVar) (N0 : Nat) (v : AV) (S' : Store) : AX → Env → Store → Prop
 | .norm => Fin P rs N0 v S'
 | .ret => Fin P rs N0 v S'
 | .exit _ => fun _ _ => False
section
variable {P : Program}
theorem aLoad_ok {w : World} {g : Gh} {S : Store} (hw : WF w g S) {ty : TypeId} {x v : AV} {cx : Value} (hx : Rel w g x cx) (h : aLoad (szOf P ty) S x = some v) : ∃ ad cv, cx = .pointer (some ad) ∧ (loadVar ty ad).run P w = .ok cv w ∧ Rel w g v cv := by
 unfold aLoad at h
 split at h
 ·rename_i sz ag l off hs
  split at h
  ·rename_i cs hS
   obtain ⟨arr, T, fr, h4, h5, hc, hl, _⟩ := obj_cells hw hS
   cases hx
   obtain ⟨cv, h1, h2⟩ := load_from (P := P) hc (b := g.pl l) (o := 0) (fun j hj => by rw [Nat.zero_add, cell_of_row w (g.pl l) j arr T fr h4]) hs h
   rw [Nat.zero_add] at h1
   exact ⟨_, cv, rfl, h1, h2⟩
  ·cases h
 ·rename_i sz ag v' off hs
  cases hx with
  | pst _ _ _ b o' cu hA h1 hr' =>
   have hc : CellsRel w g v'.cells ((List.range v'.cells.length).map cu).toArray := by
    refine ⟨by simp, fun u hu => ?_, fun j u z hu hz => ?_⟩
    ·simp only [List.mem_map, List.mem_range] at hu
     obtain ⟨j, hj, rfl⟩ := hu
     exact h1 j hj
    ·have hj := (List.getElem?_eq_some_iff.1 hu).1
     simp [List.getElem?_range hj] at hz
     rw [← hz]
     exact (hr' j u hu).ofNoid
   obtain ⟨cv, h2, h3⟩ := load_from (P := P) hc (b := b) (o := o') (fun j hj => by
    have hj' : j < v'.cells.length := by simpa using hj
    rw [(hA j hj').2]
    simp [List.getElem?_range hj']) hs h
   exact ⟨_, cv, rfl, h2, h3⟩
 ·rename_i sz ag l n off hs
  split at h
  ·rename_i cs el z hS
   split at h
   ·rename_i hc0
    exact row_load (P := P) hw hs hS hc0 h hx
   ·cases h
  ·cases h
 ·cases h
def resRun (tmps : Array Value) : ResultVar → Sem Value
 | .tmp t => pure (tmps.getD t undef)
 | .cell a t => do loadVar t (← asAddr (tmps.getD a undef))
theorem aRes_ok {w : World} {g : Gh} {S : Store} {e : Env} {a : Act} (hw : WF w g S) (he : ERel w g e a) : ∀ (rs : List ResultVar) (vs : List AV), aRes P rs e S = some vs →
  ∃ cvs : List Value, (rs.mapM (resRun a.tmps)).run P w = .ok cvs w ∧ cvs.length = vs.length ∧
   ∀ (j : Nat) u v, vs[j]? = some u → cvs[j]? = some v → Rel w g u v
 | [], vs, h => by
  cases h
  exact ⟨[], by simp, rfl, by simp⟩
 | .tmp t :: rest, vs, h => by
  simp only [aRes] at h
  obtain ⟨vs', h1, rfl⟩ := Option.map_eq_some_iff.1 h
  obtain ⟨cvs, h2, h3, h4⟩ := aRes_ok hw he rest vs' h1
  refine ⟨a.tmps.getD t undef :: cvs, by simp only [List.mapM_cons, Sem.run_bind, resRun, Sem.run_pure, Result.andThen_ok, h2], by simp [h3], fun j u v hu hv => ?_⟩
  cases j with
  | zero =>
   simp only [List.getElem?_cons_zero, Option.some.injEq] at hu hv
   rw [← hu, ← hv]; exact he t
  | succ j => exact h4 j u v (by simpa using hu) (by simpa using hv)
 | .cell x t :: rest, vs, h => by
  simp only [aRes] at h
  split at h
  ·rename_i v' vs' h0 h1
   cases h
   obtain ⟨cvs, h2, h3, h4⟩ := aRes_ok hw he rest vs' h1
   obtain ⟨ad, cv, h5, h6, h7⟩ := aLoad_ok hw (he x) h0
   refine ⟨cv :: cvs, by simp only [List.mapM_cons, Sem.run_bind, resRun, h5, asAddr, Sem.run_pure, Result.andThen_ok, h6, h2], by simp [h3], fun j u v hu hv => ?_⟩
   cases j with
   | zero => simp at hu hv; rw [← hu, ← hv]; exact h7
   | succ j => exact h4 j u v (by simpa using hu) (by simpa using hv)
  ·cases h
theorem results_ok {w : World} {g : Gh} {S : Store} {e : Env} {a : Act} (hw : WF w g S) (he : ERel w g e a) {fn : Func} {vs : List AV} (h : aRes P fn.results.toList e S = some vs) :
  ∃ cv, (results fn a.tmps).run P w = .ok cv w ∧ Rel w g (resV vs) cv := by
 obtain ⟨cvs, h1, h2, h3⟩ := aRes_ok hw he fn.results.toList vs h
 have hrun : (results fn a.tmps).run P w = .ok (if h : cvs.toArray.size = 1 then cvs.toArray[0] else .tuple cvs.toArray) w := by
  have hf : results fn a.tmps = (do let vs ← fn.results.mapM (resRun a.tmps); pure (if h : vs.size = 1 then vs[0] else .tuple vs)) := by
   unfold results
   congr 1
  rw [hf, Sem.run_bind, Array.mapM_eq_mapM_toList, Sem.run_map, h1]
  rfl
 refine ⟨_, hrun, ?_⟩
 match vs, cvs, h2, h3 with
 | [u], [v], _, h3 => exact h3 0 u v rfl rfl
 | [], [], _, _ => exact .tup g [] #[] rfl (by simp)
 | u :: u' :: us, v :: v' :: cs, h2, h3 =>
  have : ¬ (v :: v' :: cs).toArray.size = 1 := by simp
  rw [dif_neg this]
  exact .tup g _ _ (by simpa using h2) (fun j u v hu hv => h3 j u v hu (by simpa using hv))
theorem Evo.sub {w0 w : World} {g0 g : Gh} {κ : List Nat} (h : Evo w0 g0 w g) (hn : κ.Nodup) (hin : ∀ i, i < κ.length → idx κ i < g.nid) (hk : κ.take g0.nid = List.range g0.nid) : Evo w0 g0 w (g.sub κ) := by
 have hlen : g0.nid ≤ κ.length := by
  have := congrArg List.length hk
  rw [List.length_take, List.length_range] at this
  omega
 have hid : ∀ l, l < g0.nid → idx κ l = l := by
  intro l hl
  have : κ[l]? = some l := by
   rw [← List.getElem?_take_of_lt hl, hk, List.getElem?_range hl]
  unfold idx
  rw [List.getD_eq_getElem?_getD, this]
  rfl
 refine ⟨⟨h.cell, h.G, hlen, fun l hl => ?_, h.map⟩, h.os, h.tape, h.output, h.size, h.old, fun l b hl hb hlt => ?_, h.Gold⟩
 ·have := h.keep l hl
  show g.buf (idx κ l) = _ ∧ ((g.pl (idx κ l) = _ ∧ g.wm (idx κ l) = _ ∧ g.cap (idx κ l) = _) ∨ (_ ∧ _ < g.wm (idx κ l)))
  rw [hid l hl]
  exact this
 ·have hb' : g.own (idx κ l) b := hb
  have hl' : l < κ.length := hl
  obtain ⟨h1, h2⟩ := h.own (idx κ l) b (hin l hl') hb' hlt
  have h3 : idx κ (idx κ l) = idx κ l := hid _ h1
  have h4 := idx_inj hn (by omega) hl' h3
  rw [h4] at h1 h2
  exact ⟨h1, h2⟩
theorem SubOk.lt {w : World} {g : Gh} {S S' : Store} {κ : List Nat} (hs : SubOk κ S S') (h : WF w g S) : ∀ i, i < κ.length → idx κ i < g.nid := by
 intro i hi
 have hi' : i < S'.length := by rw [hs.len]; exact hi
 have h2 := (hs.ok i _ (List.getElem?_eq_getElem hi')).2
 rw [h.nid]
 exact (List.getElem?_eq_some_iff.1 h2).1
theorem Le.aside {w : World} {g : Gh} {b : Nat} {D : Option (List Deferred)} (h : w.heap[b]? = some (.deferred D)) (ob : Obj) : Le w g { w with heap := w.heap.setIfInBounds b ob } g := by
 have hne : ∀ {b' o : Nat} {v : Value}, w.cell? ⟨b', o, none⟩ = some v → b' ≠ b := fun hv e => by
  subst e
  simp [World.cell?, h] at hv
 refine ⟨fun b' o v hb hv => ?_, fun _ _ _ h _ => h, Nat.le_refl _, fun _ _ => ⟨rfl, .inl ⟨rfl, rfl, rfl⟩⟩, fun b' me c hg hm => ⟨hg, (heap_setObj (fun e => by subst e; rw [h] at hm; cases hm)).trans hm⟩⟩
 rw [World.cell?_of_block (w := w) (heap_setObj (hne hv))]
 exact hv
theorem WF.aside {w : World} {g : Gh} {S : Store} {b : Nat} {D : Option (List Deferred)} (hw : WF w g S) (h : w.heap[b]? = some (.deferred D)) (hno : ∀ l, l < g.nid → ¬ g.own l b) (ob : Obj) : WF { w with heap := w.heap.setIfInBounds b ob } g S := by
 have hle := Le.aside (g := g) h ob
 refine ⟨hw.nid, fun l o hl => ?_, hw.disj, fun l b' hl hb => ?_, hw.tab.le hle⟩
 ·have hlt : l < g.nid := by rw [hw.nid]; exact (List.getElem?_eq_some_iff.1 hl).1
  exact (hw.obj l o hl).keep hle rfl rfl rfl rfl rfl (fun _ _ => rfl) (fun b' hb => heap_setObj fun e => hno l hlt (by rw [← e]; exact hb))
 ·have := hw.lt l b' hl hb
  simpa using this
theorem leave_marks {fn : Func} {R : Ending → World → Prop} {w0 : World} {g0 g : Gh} {e : Env} {S : Store} {a : Act} : ∀ (D : List Deferred) (w : World), WF w g S → ERel w g e a → EvD w0 g0 w g D →
  (∀ w', WF w' g S → ERel w' g e a → Evo w0 g0 w' g → ∃ v, (results fn a.tmps).run P w' = .ok v w' ∧ R (.returned v) w') → LeavesInM (wR none) 0 P fn a.tmps R D .returning w
 | [], w, hw, he, hD, h => h w hw he hD.toEvo
 | d :: D, w, hw, he, hD, h => by
  obtain ⟨b, h1, h2, h3, h4, h5⟩ := hD.defs d (by simp)
  have hle := Le.aside (g := g) h4 (.deferred none)
  refine ⟨by simp, .inl ⟨b, w.putObj b (.deferred none), h1, run_takeDeferred h4, leave_marks D _ (hw.aside h4 h5 _) (fun t => (he t).le hle) ⟨⟨hD.toLe.trans hle, hD.os, hD.tape, hD.output, by simpa [World.putObj] using hD.size, fun b' hb hn => (heap_setObj (fun e => by omega)).trans (hD.old b' hb hn), hD.own, hD.Gold⟩, fun d' hd' => ?_, (by have := hD.nodup; simp only [List.map_cons, List.nodup_cons] at this; exact this.2)⟩ h⟩⟩
  obtain ⟨b', k1, k2, k3, k4, k5⟩ := hD.defs d' (by simp [hd'])
  have hne : b' ≠ b := fun e => by
   have := hD.nodup
   simp only [List.map_cons, List.nodup_cons] at this
   exact this.1 (List.mem_map.2 ⟨d', hd', by rw [k1, h1, e]⟩)
  exact ⟨b', k1, k2, by simpa [World.putObj] using k3, (heap_setObj hne).trans k4, k5⟩
theorem AC.of_wp {f : FuncId} {fn : Func} {c : Code} {args : List AV} {S S' : Store} {v : AV} (hf : P.funcs[f]? = some fn) (hb : fn.body = some c) (hname : fn.name ≠ "runtime.NumGoroutine") (hn : args.length ≤ fn.ntmps)
  (h : ∀ (w : World) (g : Gh) (a : Act), g.nid = S.length → Conc fn.ntmps w g (argEnv args) S a w → c.wpIn (wR none) 0 P (toQ fn.ntmps w g (finQ P fn.results.toList S.length v S')) a w) : AC P f args S v S' := by
 refine ⟨by simp [callable, hf, hb, hname], fun w g cargs hw hargs => ?_⟩
 refine (callsIn_wide (n := 0)).1 (callsIn_of_wp_marks hf hb trivial ?_)
 have hc : Conc fn.ntmps w g (argEnv args) S { tmps := cargs ++ Array.replicate (fn.ntmps - cargs.size) undef, defers := [] } w := by
  refine ⟨by simp [hargs.1]; omega, trivial, g, hw, fun t => ?_, .none (Evo.refl w g)⟩
  show Rel w g (args.getD t .junk) ((cargs ++ Array.replicate (fn.ntmps - cargs.size) undef).getD t undef)
  rw [List.getD_eq_getElem?_getD]
  cases ht : args[t]? with
  | none => exact .junk _ _
  | some u =>
   have hlt : t < cargs.size := by rw [hargs.1]; exact (List.getElem?_eq_some_iff.1 ht).1
   have h1 : cargs[t]? = some cargs[t] := Array.getElem?_eq_getElem hlt
   rw [Array.getD_eq_getD_getElem?, Array.getElem?_append_left hlt, h1]
   exact hargs.2 t u _ ht h1
 refine Go.wpIn_mono (h w g _ hw.nid hc) ?_
 have fin : ∀ a' w' e1 S1, Conc fn.ntmps w g e1 S1 a' w' → Fin P fn.results.toList S.length v S' e1 S1 → LeavesInM (wR none) 0 P fn a'.tmps (fun r w' => ∃ cv' g', r = .returned cv' ∧ WF w' g' S' ∧ Rel w' g' v cv' ∧ Evo w g w' g') a'.defers .returning w' := by
  rintro a' w' e0 S0 hc0 ⟨e1, S1, vs, κ, k0, k1, k2, k3, k4, k5⟩
  obtain ⟨_, _, g1, h3, h4, h5⟩ := k0 fn.ntmps w g a' w' hw.nid hc0
  refine leave_marks a'.defers w' h3 h4 h5 fun w' h3 h4 h5 => ?_
  obtain ⟨cv, r1, r2⟩ := results_ok h3 h4 k1
  refine ⟨cv, r1, cv, g1.sub κ, rfl, h3.sub k2, ?_, h5.sub k2.nodup (k2.lt h3) (by rw [hw.nid]; exact k3)⟩
  rcases k5 with k5 | k5
  ·rw [k5] at r2
   exact Rel.unren (un_sub w' g1 κ) r2 k4
  ·have r3 := r2.wk
   rw [k5] at r3
   exact Rel.unren (un_sub w' g1 κ) r3 k4
 intro ex a' w' hq
 cases ex with
 | normal => obtain ⟨e1, S1, hc1, h1⟩ := hq; exact fin a' w' e1 S1 hc1 h1
 | ret => obtain ⟨e1, S1, hc1, h1⟩ := hq; exact fin a' w' e1 S1 hc1 h1
 | exit id => obtain ⟨e1, S1, hc1, h1⟩ := hq; exact h1.elim
 | _ => exact hq.elim
theorem AC.enter {f : FuncId} {fn : Func} {c : Code} {args : List AV} {S S' : Store} {v : AV} (pf rf : List FuncId) (hf : P.funcs[f]? = some fn) (hb : fn.body = some c) (hname : fn.name ≠ "runtime.NumGoroutine") (hm : P.follows .mixedOrders = true)
  (hn : args.length ≤ fn.ntmps) (hok : codeOk P pf rf fn.ntmps c = true) (h : AW P pf rf S.length (eraseC c) (finQ P fn.results.toList S.length v S') (argEnv args) S) : AC P f args S v S' :=
 AC.of_wp hf hb hname hn fun w g a hg hc => AW_ok none (.inl rfl) hm hg _ (argEnv args) S a w hok hc h
theorem AC.enterN {f : FuncId} {fn : Func} {c : Code} {args : List AV} {S S' : Store} {v : AV} (N : Nat) (pf rf : List FuncId) (hf : P.funcs[f]? = some fn) (hb : fn.body = some c) (hname : fn.name ≠ "runtime.NumGoroutine") (hm : P.follows .mixedOrders = true)
  (hn : args.length ≤ fn.ntmps) (hok : codeOk P pf rf fn.ntmps c = true) (hN : fn.ntmps = N) (h : AW P pf rf S.length (eraseG (some N) c) (finQ P fn.results.toList S.length v S') (argEnv args) S) : AC P f args S v S' :=
 AC.of_wp hf hb hname hn fun w g a hg hc => AW_okG (some N) (fun _ e => by cases e; exact hN.symm) none hm hg c _ (argEnv args) S a w hok (.inl rfl) hc h
end
end Go.Proofs.YtleljbiejeofgaaGreatDoor.Pe
namespace Go.Proofs.YtleljbiejeofgaaGreatDoor.Pe
open Go Go.RowKit
variable [Tab]
def condP (v : AV) (X Y : Prop) : Prop :=
 match v with
 | .bo b => iteP b X Y
 | _ => False
@[congr] theorem condP_congr {v u : AV} (X Y : Prop) (h : v = u) : condP v X Y = condP u X Y := by rw [h]
theorem condP_bo (b : Bool) (X Y : Prop) : condP (.bo b) X Y = iteP b X Y := rfl
def fnP (P : Program) (pf rf : List FuncId) (t : Nat) (v : AV) (args : List AV) (S : Store) (K : AV → Store → Prop) : Prop :=
 match v with
 | .fn (.func f) fa ca => callP (ACallT P pf rf (.tmp t) f (fa ++ args ++ ca) S) K
 | .fn (.yield b) fa [] => callP (AYT P pf rf t b (fa ++ args) S) K
 | _ => False
@[congr] theorem fnP_congr {P : Program} {pf rf : List FuncId} {t : Nat} {v u : AV} (args : List AV) (S : Store) (K : AV → Store → Prop) (h : v = u) : fnP P pf rf t v args S K = fnP P pf rf t u args S K := by rw [h]
theorem fnP_fn (P : Program) (pf rf : List FuncId) (t : Nat) (f : FuncId) (fa ca args : List AV) (S : Store) (K : AV → Store → Prop) : fnP P pf rf t (.fn (.func f) fa ca) args S K =
  callP (if pf.contains (t + 1000000) then PureC P f (fa ++ args ++ ca) S else if rf.contains (t + 1000000) then ReadC P f (fa ++ args ++ ca) S else ACall P pf rf f (fa ++ args ++ ca) S) K := rfl
theorem fnP_yield (P : Program) (pf rf : List FuncId) (t b : Nat) (args : List AV) (S : Store) (K : AV → Store → Prop) : fnP P pf rf t (.fn (.yield b) [] []) args S K = callP (AYT P pf rf t b args S) K := rfl
def AWs (P : Program) (pf rf : List FuncId) (N0 : Nat) (c : CC) (Q : AX → Env → Store → Prop) (e : Env) (S : Store) : Prop := AW P pf rf N0 c Q e S
def ARgs (P : Program) (pf rf : List FuncId) (l : List AO) (e : Env) (S : Store) (K : Env → Store → Prop) : Prop := ARg P pf rf l e S K
def AOps (P : Program) (pf rf : List FuncId) (op : Op) (e : Env) (S : Store) (K : AV → Store → Prop) : Prop := AOp P pf rf op e S K
def convP (k : Kd) (X Y : Unit → Prop) : Prop :=
 match k with
 | .bytes => X ()
 | _ => Y ()
@[congr] theorem convP_congr {k k' : Kd} (X Y : Unit → Prop) (h : k = k') : convP k X Y = convP k' X Y := by rw [h]
theorem convP_bytes (X Y : Unit → Prop) : convP .bytes X Y = X () := rfl
theorem convP_int (k : IntKind) (X Y : Unit → Prop) : convP (.int k) X Y = Y () := rfl
theorem convP_str (X Y : Unit → Prop) : convP .str X Y = Y () := rfl
def ARgk (P : Program) (pf rf : List FuncId) (d : Option Nat) (rest : List AO) (e : Env) (K : Env → Store → Prop) : AV → Store → Prop := fun v S' => ARg P pf rf rest (put e d v) S' K
def bindV (x : Option AV) (K : AV → Store → Prop) (S : Store) : Prop := bindO x fun v => K v S
def bindS (x : Option Store) (K : AV → Store → Prop) : Prop := bindO x fun S' => K .junk S'
def bindC (x : Option (List AV)) (K : AV → Store → Prop) (S : Store) : Prop := bindO x fun cs => K (.ptr S.length 0) (S ++ [.cells cs])
def bindR (x : Option (AV × Store)) (K : AV → Store → Prop) : Prop := bindO x fun r => K r.1 r.2
def bindM (x : Option Unit) (K : AV → Store → Prop) (S : Store) : Prop := bindO x fun _ => K (.mp S.length) (S ++ [.map []])
def guardP (x : Option Bool) (A B : Prop) : Prop := bindO x fun b => iteP b A B
theorem bindV_some (v : AV) (K : AV → Store → Prop) (S : Store) : bindV (some v) K S = K v S := rfl
theorem bindS_some (S' : Store) (K : AV → Store → Prop) : bindS (some S') K = K .junk S' := rfl
def bindZ (x : Option (List AV)) (t : TypeId) (K : AV → Store → Prop) (S : Store) : Prop := bindO x fun z => K (.ptr S.length 0) (S ++ [zobj t z])
theorem bindZ_some (z : List AV) (t : TypeId) (K : AV → Store → Prop) (S : Store) : bindZ (some z) t K S = K (.ptr S.length 0) (S ++ [zobj t z]) := rfl
theorem bindC_some (cs : List AV) (K : AV → Store → Prop) (S : Store) : bindC (some cs) K S = K (.ptr S.length 0) (S ++ [.cells cs]) := rfl
theorem bindR_some (v : AV) (S' : Store) (K : AV → Store → Prop) : bindR (some (v, S')) K = K v S' := rfl
theorem bindM_some (K : AV → Store → Prop) (S : Store) : bindM (some ()) K S = K (.mp S.length) (S ++ [.map []]) := rfl
theorem guardP_some (b : Bool) (A B : Prop) : guardP (some b) A B = iteP b A B := rfl
theorem bindV_mk {x : Option AV} {K : AV → Store → Prop} {S : Store} (v : AV) (h : x = some v) (h' : K v S) : bindV x K S := by rw [h]; exact h'
def pickV (v x y : AV) (K : AV → Store → Prop) (S : Store) : Prop :=
 match v with
 | .bo t => K (if t then x else y) S
 | _ => False
theorem pickV_bo (b : Bool) (x y : AV) (K : AV → Store → Prop) (S : Store) : pickV (.bo b) x y K S = K (if b then x else y) S := rfl
def pickP (v x y : AV) (K : AV → Prop) : Prop :=
 match v with
 | .bo t => K (if t then x else y)
 | _ => False
section
variable (P : Program) (pf rf : List FuncId) (N0 : Nat) (Q : AX → Env → Store → Prop) (next : Env → Store → Prop) (e : Env) (S : Store) (K : AV → Store → Prop)
theorem AW_skip : AW P pf rf N0 .skip Q e S = Q .norm e S := rfl
theorem AW_reg (l : List AO) : AW P pf rf N0 (.reg l) Q e S = ARg P pf rf l e S (Q .norm) := rfl
theorem AW_seq (a b : CC) : AW P pf rf N0 (.seq a b) Q e S = AW P pf rf N0 a (thenQ Q (AW P pf rf N0 b Q)) e S := rfl
theorem AW_cond (c : Operand) (t f : CC) : AW P pf rf N0 (.cond c t f) Q e S = condP (ev e c) (AWs P pf rf N0 t Q e S) (AWs P pf rf N0 f Q e S) := rfl
theorem AW_block (id : Nat) (b : CC) : AW P pf rf N0 (.block id b) Q e S = AW P pf rf N0 b (blockQ id Q) e S := rfl
theorem AW_loop (b : CC) : AW P pf rf N0 (.loop b) Q e S = ALoop N0 (AW P pf rf N0 b) Q e S := rfl
theorem AW_exit (id : Nat) : AW P pf rf N0 (.exit id) Q e S = Q (.exit id) e S := rfl
theorem AW_ret : AW P pf rf N0 .ret Q e S = Q .ret e S := rfl
theorem thenQ_norm : thenQ Q next .norm e S = next e S := rfl
theorem thenQ_ret : thenQ Q next .ret e S = Q .ret e S := rfl
theorem thenQ_exit (id : Nat) : thenQ Q next (.exit id) e S = Q (.exit id) e S := rfl
theorem blockQ_norm (id : Nat) : blockQ id Q .norm e S = Q .norm e S := rfl
theorem blockQ_ret (id : Nat) : blockQ id Q .ret e S = Q .ret e S := rfl
theorem blockQ_same (id : Nat) : blockQ id Q (.exit id) e S = Q .norm e S := by simp [blockQ]
theorem blockQ_exit (id i : Nat) : blockQ id Q (.exit i) e S = if i = id then Q .norm e S else Q (.exit i) e S := by
 show (if i = id then Q .norm else Q (.exit i)) e S = _
 split <;> rfl
theorem ARg_nil (K : Env → Store → Prop) : ARg P pf rf [] e S K = K e S := rfl
theorem ARg_cons (d : Option Nat) (op : Op) (rest : List AO) (K : Env → Store → Prop) : ARg P pf rf (⟨d, op, none⟩ :: rest) e S K = AOp P pf rf op e S (ARgk P pf rf d rest e K) := by
 show iteP true _ _ = _
 rw [iteP_true]
 rfl
theorem ARg_guard (d : Option Nat) (op : Op) (gd : Option Nat × Bool) (rest : List AO) (K : Env → Store → Prop) : ARg P pf rf (⟨d, op, some gd⟩ :: rest) e S K =
  guardP (aGd (some gd) e) (AOps P pf rf op e S (ARgk P pf rf d rest e K)) (ARgs P pf rf rest (put e d (.tup [])) S K) := rfl
theorem AWs_eq (c : CC) : AWs P pf rf N0 c Q e S = AW P pf rf N0 c Q e S := rfl
theorem ARgs_eq (l : List AO) (K : Env → Store → Prop) : ARgs P pf rf l e S K = ARg P pf rf l e S K := rfl
theorem AOps_eq (op : Op) : AOps P pf rf op e S K = AOp P pf rf op e S K := rfl
theorem iteP_trueW (c : CC) (Y : Prop) : iteP true (AWs P pf rf N0 c Q e S) Y = AW P pf rf N0 c Q e S := iteP_true _ _
theorem iteP_falseW (c : CC) (X : Prop) : iteP false X (AWs P pf rf N0 c Q e S) = AW P pf rf N0 c Q e S := iteP_false _ _
theorem iteP_trueO (op : Op) (Y : Prop) : iteP true (AOps P pf rf op e S K) Y = AOp P pf rf op e S K := iteP_true _ _
theorem iteP_falseR (l : List AO) (K : Env → Store → Prop) (X : Prop) : iteP false X (ARgs P pf rf l e S K) = ARg P pf rf l e S K := iteP_false _ _
theorem ARgk_apply (d : Option Nat) (rest : List AO) (K : Env → Store → Prop) (v : AV) : ARgk P pf rf d rest e K v S = ARg P pf rf rest (put e d v) S K := rfl
theorem AOp_move (x : Operand) : AOp P pf rf (.move x) e S K = K (ev e x) S := rfl
theorem AOp_assign (x : Operand) : AOp P pf rf (.assign x) e S K = K (ev e x) S := rfl
theorem AOp_load (t : TypeId) (x : Operand) : AOp P pf rf (.load t x) e S K = bindV (aLoad (szOf P t) S (ev e x)) K S := rfl
theorem AOp_store (t : TypeId) (x y : Operand) : AOp P pf rf (.store t x y) e S K = bindS (aStore (szOf P t) S (ev e x) (ev e y)) K := rfl
theorem AOp_box (t : TypeId) (x : Operand) : AOp P pf rf (.box t x) e S K = bindC (if (ev e x).solid = true then some (ev e x).cells else none) K S := rfl
theorem AOp_alloc (t : TypeId) : AOp P pf rf (.alloc t) e S K = bindZ (zerOf P t) t K S := rfl
theorem AOp_lit (t : TypeId) (n : Nat) (parts : Array (Nat × Operand)) : AOp P pf rf (.buildSlice t n parts) e S K = bindV (aLits P t n (parts.toList.map fun p => (p.1, ev e p.2))) K S := rfl
theorem AOp_make (t : TypeId) (x y : Operand) : AOp P pf rf (.makeSlice t x y) e S K = bindR (orO (aMake P t (ev e x) (ev e y) S) (aMakeW P t (ev e x) (ev e y) S)) K := rfl
theorem AOp_mkMap (t : TypeId) (r : Option Operand) : AOp P pf rf (.makeMap t r) e S K = bindM (okO ((r.isNone || (mapOf P t).isSome) && aMk (r.map (ev e)))) K S := rfl
theorem AOp_insert (t : TypeId) (m k v : Operand) : AOp P pf rf (.insert t m k v) e S K = bindS (aMapSet (mapOf P t) S (ev e m) (ev e k) (ev e v)) K := rfl
theorem AOp_mapUpd (t : TypeId) (m k v : Operand) : AOp P pf rf (.mapUpdate t m k v) e S K = bindS (aMapSet (mapOf P t) S (ev e m) (ev e k) (ev e v)) K := rfl
theorem AOp_lookup (t : TypeId) (x k : Operand) (b : Bool) : AOp P pf rf (.lookup t x k b) e S K = bindV (aLook (mapOf P t) S (ev e x) (ev e k) b) K S := rfl
theorem AOp_range (t : TypeId) (x : Operand) : AOp P pf rf (.range t x) e S K = bindR (aRange (kdOf P t) S (ev e x)) K := rfl
theorem AOp_next (x : Operand) (b : Bool) : AOp P pf rf (.next x b) e S K = bindR (aNext S (ev e x) b) K := rfl
theorem aSet_nil (cs : List AV) : aSet cs 0 [] = cs := by simp [aSet]
theorem aSet_zero (c u : AV) (cs us : List AV) : aSet (c :: cs) 0 (u :: us) = u :: aSet cs 0 us := by simp [aSet, Nat.add_comm]
theorem aSet_succ (c : AV) (cs us : List AV) (n : Nat) : aSet (c :: cs) (n + 1) us = c :: aSet cs n us := by simp [aSet, Nat.succ_add]
theorem aSet_map {α : Type} (f : α → AV) (l : List α) (i : Nat) (x : α) (h : i < l.length) : aSet (l.map f) i [f x] = (l.set i x).map f := by
 simp only [aSet, List.length_cons, List.length_nil]
 rw [List.set_eq_take_append_cons_drop, if_pos h]
 simp
theorem aSet_st (l : List (List UInt8)) (i : Nat) (x : List UInt8) (h : i < l.length) : aSet (l.map .st) i [.st x] = (l.set i x).map .st := aSet_map .st l i x h
theorem AOp_conv (s d : TypeId) (x : Operand) : AOp P pf rf (.convert s d x) e S K = convP (kdOf P d) (fun _ => bindR (aBytes P s d (ev e x) S) K) (fun _ => bindV (aConv P s d (ev e x)) K S) := by
 show (match kdOf P d with | .bytes => _ | _ => _) = _
 unfold convP
 split <;> rfl
theorem AOp_func (f : FuncId) (args : Array Operand) (ts : Array TypeId) : AOp P pf rf (.call { callee := .value (.func f), args := args, argTypes := ts }) e S K = callP (ACall P pf rf f (args.toList.map (ev e)) S) K := by
 show callP (ACall P pf rf f ([] ++ args.toList.map (ev e) ++ []) S) K = _
 rw [List.nil_append, List.append_nil]
theorem AOp_tmp (t : Nat) (args : Array Operand) (ts : Array TypeId) : AOp P pf rf (.call { callee := .value (.tmp t), args := args, argTypes := ts }) e S K = fnP P pf rf t (e t) (args.toList.map (ev e)) S K := by
 unfold AOp fnP
 rfl
theorem AOp_append (x y : Operand) (t u : TypeId) : AOp P pf rf (.call { callee := .builtin .append, args := #[x, y], argTypes := #[t, u] }) e S K = bindR (aApp P t u S (ev e x) (ev e y)) K := rfl
theorem AOp_len (args : Array Operand) (ts : Array TypeId) : AOp P pf rf (.call { callee := .builtin .len, args := args, argTypes := ts }) e S K = bindV (aBui P .len ts (args.toList.map (ev e))) K S := rfl
theorem AOp_min (args : Array Operand) (ts : Array TypeId) : AOp P pf rf (.call { callee := .builtin .min, args := args, argTypes := ts }) e S K = bindV (aBui P .min ts (args.toList.map (ev e))) K S := rfl
theorem AOp_max (args : Array Operand) (ts : Array TypeId) : AOp P pf rf (.call { callee := .builtin .max, args := args, argTypes := ts }) e S K = bindV (aBui P .max ts (args.toList.map (ev e))) K S := rfl
theorem AOp_pick (c x y : Operand) : AOp P pf rf (.pick c x y) e S K = pickV (ev e c) (ev e x) (ev e y) K S := rfl
theorem AOp_nil (x : Operand) : AOp P pf rf (.nilCheck x) e S K = bindV (aNil (ev e x)) K S := rfl
theorem AOp_bin (op : BinOp) (t t' : TypeId) (x y : Operand) : AOp P pf rf (.binOp op t x y t') e S K = bindV (aBinO P op t e x y) K S := rfl
theorem aBinO_tmp (op : BinOp) (t : TypeId) (x : Operand) (y : Nat) : aBinO P op t e x (.tmp y) = aBin P op t (ev e x) (e y) := rfl
theorem aBinO_int (op : BinOp) (t : TypeId) (x : Operand) (k : IntKind) (n : Int) : aBinO P op t e x (.const (.int k n)) = aBin P op t (ev e x) (.it k n) := rfl
theorem aBinO_str (op : BinOp) (t : TypeId) (x : Operand) (a : Array UInt8) : aBinO P op t e x (.const (.string ⟨a⟩)) = aBin P op t (ev e x) (.st a.toList) := rfl
theorem aBinO_bool (op : BinOp) (t : TypeId) (x : Operand) (b : Bool) : aBinO P op t e x (.const (.bool b)) = aBin P op t (ev e x) (.bo b) := rfl
theorem aBinO_agg (op : BinOp) (t : TypeId) (x : Operand) (a : Array Value) : aBinO P op t e x (.const (.agg a)) = aBin P op t (ev e x) (ev e (.const (.agg a))) := rfl
theorem aBinO_ptr (op : BinOp) (t : TypeId) (x : Operand) (a : Option Addr) : aBinO P op t e x (.const (.pointer a)) = aBin P op t (ev e x) (ev e (.const (.pointer a))) := rfl
theorem aBinO_map (op : BinOp) (t : TypeId) (x : Operand) (a : Option Nat) : aBinO P op t e x (.const (.map a)) = aBin P op t (ev e x) (ev e (.const (.map a))) := rfl
theorem aBinO_nfn (op : BinOp) (t : TypeId) (x : Operand) : aBinO P op t e x (.const .nilFunc) = aBin P op t (ev e x) (ev e (.const .nilFunc)) := rfl
theorem aBinO_nil (op : BinOp) (t : TypeId) (x : Operand) (n c : Nat) : aBinO P op t e x (.const (.slice none n c)) = if (sleOf P t).isSome = true then aNilEq op (ev e x) else none := rfl
theorem AOp_un (op : UnOp) (t : TypeId) (x : Operand) : AOp P pf rf (.unOp op t x) e S K = bindV (aUn op (ev e x)) K S := rfl
theorem AOp_fn (f : Fn) (a b : Array Operand) : AOp P pf rf (.makeFunc f a b) e S K = K (.fn f (a.toList.map (ev e)) (b.toList.map (ev e))) S := rfl
theorem AOp_slice (t : TypeId) (x : Operand) (lo hi mx : Option Operand) : AOp P pf rf (.slice t x lo hi mx) e S K = bindV (aSlice P t (ev e x) (lo.map (ev e)) (hi.map (ev e)) (mx.map (ev e))) K S := rfl
theorem AOp_fieldAddr (t : TypeId) (x : Operand) (f : Nat) : AOp P pf rf (.fieldAddr t x f) e S K = bindV (aFldAddr (fldOf P t f) (ev e x)) K S := rfl
theorem AOp_field (t : TypeId) (x : Operand) (f : Nat) : AOp P pf rf (.field t x f) e S K = bindV (aFld (fldOf P t f) (ev e x)) K S := rfl
theorem AOp_indexAddr (t : TypeId) (x i : Operand) : AOp P pf rf (.indexAddr t x i) e S K = bindV (aIdxAddr P t (ev e x) (ev e i)) K S := rfl
theorem AOp_index (t : TypeId) (x i : Operand) : AOp P pf rf (.index t x i) e S K = bindV (aIdx P t (ev e x) (ev e i)) K S := rfl
theorem AOp_extract (t : Operand) (i : Nat) : AOp P pf rf (.extract t i) e S K = bindV (aval P e (.extract t i)) K S := rfl
theorem AOp_build (t : TypeId) (parts : Array (Nat × Operand)) : AOp P pf rf (.build t parts) e S K = bindV (aval P e (.build t parts)) K S := rfl
theorem pickP_bo (b : Bool) (x y : AV) (K : AV → Prop) : pickP (.bo b) x y K = K (if b then x else y) := rfl
theorem ev_tmp (t : Nat) : ev e (.tmp t) = e t := rfl
theorem ev_const (v : Value) : ev e (.const v) = cst v := rfl
theorem ev_global (g : Nat) : ev e (.global g) = .ot (.pointer (some ⟨g, 0, none⟩)) := rfl
theorem ev_func (f : FuncId) : ev e (.func f) = .fn (.func f) [] [] := rfl
theorem put_some (d : Nat) (v : AV) : put e (some d) v = upd e d v := rfl
theorem put_none (v : AV) : put e none v = e := rfl
theorem upd_apply (d t : Nat) (v : AV) : upd e d v t = if t = d then v else e t := rfl
theorem argEnv_zero (a : AV) (l : List AV) : argEnv (a :: l) 0 = a := rfl
theorem argEnv_succ (a : AV) (l : List AV) (n : Nat) : argEnv (a :: l) (n + 1) = argEnv l n := rfl
theorem cst_bool (b : Bool) : cst (.bool b) = .bo b := rfl
theorem cst_int (k : IntKind) (n : Int) : cst (.int k n) = .it k n := rfl
theorem cst_string (a : Array UInt8) : cst (.string ⟨a⟩) = .st a.toList := rfl
theorem cst_nil : cst (.slice none 0 0) = .sl .full [] := rfl
theorem cst_pnil : cst (.pointer none) = .ot (.pointer none) := rfl
theorem cst_fnil : cst .nilFunc = .ot .nilFunc := rfl
theorem cst_mnil : cst (.map none) = .ot (.map none) := rfl
theorem cst_agg (arr : Array Value) : cst (.agg arr) = if arr.toList.all (·.oneCell') then .agg (arr.toList.map cst1) else .junk := rfl
end
theorem call_mk {P : Program} {pf rf : List FuncId} {e : Env} {C : AV → Store → Prop} {d : Option Nat} {rest : List AO} {K : Env → Store → Prop} {v : AV} {S' : Store} (h : C v S') (h' : ARg P pf rf rest (put e d v) S' K) : callP C (ARgk P pf rf d rest e K) := ⟨v, S', h, h'⟩
theorem call_pure {P : Program} {pf rf : List FuncId} {e : Env} {f : FuncId} {args args' : List AV} {S : Store} {d : Option Nat} {rest : List AO} {K : Env → Store → Prop} {v : AV} (h : AC P f args' [] v []) (ha : args.map AV.wk = args') (hk : args'.all (AV.ok 0) = true) (hv : v.ok 0 = true)
  (h' : ARg P pf rf rest (put e d v) S K) : callP (PureC P f args S) (ARgk P pf rf d rest e K) := by
 subst ha
 exact ⟨v, S, ⟨h, hk, hv, rfl⟩, h'⟩
theorem Weak.refl (N0 : Nat) (e : Env) (S : Store) : Weak N0 e S e S := fun _ _ _ _ _ _ h => h
theorem Weak.trans {N0 : Nat} {e e' e'' : Env} {S S' S'' : Store} (h : Weak N0 e S e' S') (h' : Weak N0 e' S' e'' S'') : Weak N0 e S e'' S'' := fun N w0 g0 a w hn hc => h' N w0 g0 a w hn (h N w0 g0 a w hn hc)
theorem Rel.own_full {w : World} {g : Gh} {es : List AV} {cv : Value} {l : Nat} (h : Rel w g (.sl .full es) cv) (hl : l < g.nid) (hb : g.buf l = true) (hwm : g.wm l = es.length) : Rel w g (.sl (.own l) es) cv := by
 cases h with
 | sl _ _ _ A c sz cu hc hcm hsz hA h1 hr hm => exact .sl _ _ es A c sz cu hc hcm hsz hA h1 hr ⟨hl, hb, by omega, .inr (.inl hm)⟩
theorem Weak.reserve (N0 : Nat) {e : Env} {S : Store} (d : Nat) {es : List AV} (hd : e d = .sl .full es) (ty : TypeId) (sz : Nat) : Weak N0 e S (upd e d (.sl (.own S.length) es)) (S ++ [.buf es.length ty sz]) := by
 rintro N w0 g0 a w hn ⟨h1, h2, g, h3, h4, h5⟩
 obtain ⟨g', h6, h7, h8, h9, h10⟩ := h3.reserve es.length ty sz
 refine ⟨h1, h2, g', h6, fun t => ?_, h5.trans h7⟩
 have ht := (h4 t).le h7.toLe
 by_cases htd : t = d
 ·subst htd
  rw [upd_same]
  rw [hd] at ht
  refine ht.own_full ?_ ?_ ?_
  ·rw [h8, ← h3.nid]; omega
  ·rw [← h3.nid]; exact h9
  ·rw [← h3.nid]; exact h10
 ·rw [upd_ne e htd]; exact ht
section
variable {P : Program}
theorem subOk_nil (S : Store) : SubOk [] S [] := ⟨List.nodup_nil, rfl, fun i o hi => by simp at hi⟩
theorem fin0 {rs : List ResultVar} {v : AV} {e : Env} {S : Store} {vs : List AV} (h : aRes P rs e S = some vs) (hk : v.ok 0 = true) (hv : resV vs = v ∨ (resV vs).wk = v) : Fin P rs 0 v [] e S := by
 refine ⟨e, S, vs, [], Weak.refl 0 e S, h, subOk_nil S, rfl, hk, ?_⟩
 rw [ren_id hk (fun i hi => absurd hi (Nat.not_lt_zero _))]
 exact hv
theorem ends_ret0 {rs : List ResultVar} {v : AV} {e : Env} {S : Store} {vs : List AV} (h : aRes P rs e S = some vs) (hk : v.ok 0 = true) (hv : resV vs = v) : finQ P rs 0 v [] .ret e S := fin0 h hk (.inl hv)
theorem ends_ret0w {rs : List ResultVar} {v : AV} {e : Env} {S : Store} {vs : List AV} (h : aRes P rs e S = some vs) (hk : v.ok 0 = true) (hv : (resV vs).wk = v) : finQ P rs 0 v [] .ret e S := fin0 h hk (.inr hv)
theorem ends_ret {rs : List ResultVar} {v : AV} {e : Env} {S S' : Store} {vs : List AV} {N0 : Nat} (κ : List Nat) (h : aRes P rs e S = some vs) (hs : SubOk κ S S') (hn : κ.take N0 = List.range N0) (hk : v.ok κ.length = true) (hv : resV vs = v.ren (idx κ)) : finQ P rs N0 v S' .ret e S :=
 ⟨e, S, vs, κ, Weak.refl N0 e S, h, hs, hn, hk, .inl hv⟩
theorem ends_retW {rs : List ResultVar} {v : AV} {e : Env} {S S' : Store} {vs : List AV} {N0 : Nat} (e1 : Env) (S1 : Store) (hw : Weak N0 e S e1 S1) (κ : List Nat) (h : aRes P rs e1 S1 = some vs) (hs : SubOk κ S1 S') (hn : κ.take N0 = List.range N0) (hk : v.ok κ.length = true) (hv : resV vs = v.ren (idx κ)) : finQ P rs N0 v S' .ret e S :=
 ⟨e1, S1, vs, κ, hw, h, hs, hn, hk, .inl hv⟩
theorem subOk_two (k k' : Nat) {S : Store} {o o' : SObj} (hne : k ≠ k') (ho : o.ok 2 = true) (ho' : o'.ok 2 = true) (h : S[k]? = some (o.ren (idx [k, k']))) (h' : S[k']? = some (o'.ren (idx [k, k']))) : SubOk [k, k'] S [o, o'] := ⟨by simp [hne], rfl, fun i o1 hi => by
  match i, hi with
  | 0, hi => cases hi; exact ⟨ho, h⟩
  | 1, hi => cases hi; exact ⟨ho', h'⟩⟩
theorem subOk_one (k : Nat) {S : Store} {o : SObj} (ho : o.ok 1 = true) (h : S[k]? = some (o.ren (idx [k]))) : SubOk [k] S [o] := ⟨by simp, rfl, fun i o1 hi => by
  cases i with
  | zero => cases hi; exact ⟨ho, h⟩
  | succ i => simp at hi⟩
theorem AC.fresh1 {f : FuncId} {args : List AV} {v : AV} {o : SObj} (h : AC P f args [] v [o]) (ha : args.all (AV.ok 0) = true) (hv : v.ok 1 = true) (ho : o.ok 1 = true) (T : Store) :
  AC P f args T (v.ren (fun i => T.length + i)) (T ++ [o.ren (fun i => T.length + i)]) := by
 have := h.frame (T := T) [] ⟨List.nodup_nil, rfl, fun i o hi => by simp at hi⟩ ha hv (fun i o1 hi => by
  cases i with
  | zero => cases hi; exact ho
  | succ i => simp at hi)
 rw [map_id_of ha (fun v hv => ren_id hv (fun i hi => absurd hi (Nat.not_lt_zero _)))] at this
 have e : ext [] T.length = fun i => T.length + i := by funext i; simp [ext]
 simpa [after, setAll, e] using this
end
theorem AC.at1 {P : Program} {f : FuncId} {args : List AV} {v : AV} {o o' : SObj} {T : Store} (h : AC P f args [o] v [o']) (l : Nat) (hl : T[l]? = some (o.ren (idx [l]))) (ha : args.all (AV.ok 1) = true) (hv : v.ok 1 = true) (ho : o.ok 1 = true) (ho' : o'.ok 1 = true) :
  AC P f (args.map (AV.ren (idx [l]))) T (v.ren (ext [l] T.length)) (T.set l (o'.ren (ext [l] T.length))) := by
 have := h.frame (T := T) [l] ⟨by simp, rfl, fun i o1 hi => by
  cases i with
  | zero => cases hi; exact ⟨ho, hl⟩
  | succ i => simp at hi⟩ ha hv (fun i o1 hi => by
  cases i with
  | zero => cases hi; exact ho'
  | succ i => simp at hi)
 simpa [after, setAll] using this
theorem loop_mk {N0 : Nat} {B : (AX → Env → Store → Prop) → Env → Store → Prop} {Q : AX → Env → Store → Prop} {e : Env} {S : Store} (I : Nat → Env → Store → Prop) (n : Nat) (h0 : I n e S)
  (h : ∀ n e S, I n e S → B (thenQ Q (roundP N0 I n)) e S) : ALoop N0 B Q e S := ⟨I, ⟨n, e, S, Weak.refl N0 e S, h0⟩, h⟩
theorem loop_mk' {N0 : Nat} {B : (AX → Env → Store → Prop) → Env → Store → Prop} {Q : AX → Env → Store → Prop} {e : Env} {S : Store} (I : Nat → Env → Store → Prop) (n : Nat) (e' : Env) (S' : Store) (hw : Weak N0 e S e' S') (h0 : I n e' S')
  (h : ∀ n e S, I n e S → B (thenQ Q (roundP N0 I n)) e S) : ALoop N0 B Q e S := ⟨I, ⟨n, e', S', hw, h0⟩, h⟩
theorem round_mk {N0 : Nat} {I : Nat → Env → Store → Prop} {n : Nat} {e : Env} {S : Store} (n' : Nat) (hn : n' < n) (h : I n' e S) : roundP N0 I n e S := ⟨n', e, S, hn, Weak.refl N0 e S, h⟩
theorem round_mk' {N0 : Nat} {I : Nat → Env → Store → Prop} {n : Nat} {e : Env} {S : Store} (n' : Nat) (e' : Env) (S' : Store) (hw : Weak N0 e S e' S') (hn : n' < n) (h : I n' e' S') : roundP N0 I n e S := ⟨n', e', S', hn, hw, h⟩
theorem iteS {α : Type} {c : Prop} [Decidable c] (x : α) (h : c) : (if c then some x else none) = some x := if_pos h
theorem fits_ok {n b : Nat} (h : n * b ≤ 140737488355328) (h' : n ≤ 140737488355328) : fits n b = true := by simp [fits, h, h']
theorem dT {p : Prop} [Decidable p] (h : p) : decide p = true := decide_eq_true h
theorem dF {p : Prop} [Decidable p] (h : ¬ p) : decide p = false := decide_eq_false h
theorem beqT {a b : Int} (h : a = b) : (a == b) = true := by simp [h]
theorem beqF {a b : Int} (h : a ≠ b) : (a == b) = false := by simp [h]
theorem bneT {a b : Int} (h : a ≠ b) : (a != b) = true := by simp [h]
theorem bneF {a b : Int} (h : a = b) : (a != b) = false := by simp [h]
theorem beq_t (b : Bool) : (b == true) = b := by cases b <;> rfl
theorem beq_f (b : Bool) : (b == false) = !b := by cases b <;> rfl
theorem allSz_map {α : Type} (sz : Nat) (f : α → AV) (h : ∀ a, (f a).cells.length = sz) (l : List α) : allSz sz (l.map f) = true := by
 simp [allSz, h]
theorem allSz_st (l : List (List UInt8)) : allSz 1 (l.map .st) = true := allSz_map 1 _ (fun _ => rfl) l
theorem allSz_u8 (l : List UInt8) : allSz 1 (l.map u8) = true := allSz_map 1 _ (fun _ => rfl) l
theorem allSz_append (sz : Nat) (l r : List AV) : allSz sz (l ++ r) = (allSz sz l && allSz sz r) := by simp [allSz]
theorem allSz_cons (sz : Nat) (v : AV) (l : List AV) : allSz sz (v :: l) = (v.cells.length == sz && allSz sz l) := rfl
theorem allSz_nil (sz : Nat) : allSz sz [] = true := rfl
theorem wrap64 {n : Int} (h : -9223372036854775808 ≤ n) (h' : n ≤ 9223372036854775807) : IntKind.i64.wrap n = n := by rw [IntKind.wrap_i64]; omega
end Go.Proofs.YtleljbiejeofgaaGreatDoor.Pe
namespace Go.Proofs.YtleljbiejeofgaaGreatDoor.Pe
open Go Go.RowKit
variable [Tab]
theorem AC.ofBelow {P : Program} {f : FuncId} {args : List AV} {v : AV} (hcan : callable P f = true)
  (h : ∀ (w : World) (g : Gh) (cargs : Array Value), TabOk w g → LRel w g args cargs → Calls P f cargs w fun r w' => ∃ cv, r = .returned cv ∧ (∀ g', Rel w' g' v cv) ∧ Below w.heap.size w w') : AC P f args [] v [] := by
 refine ⟨hcan, fun w g cargs hw hargs => ?_⟩
 refine (h w g cargs hw.tab hargs).mono ?_
 rintro r w' ⟨cv, rfl, h1, h2⟩
 exact ⟨cv, g, rfl, hw.below h2, h1 g, Evo.below g h2⟩
theorem lrel_one {w : World} {g : Gh} {v : AV} {cargs : Array Value} (h : LRel w g [v] cargs) : ∃ cv, cargs = #[cv] ∧ Rel w g v cv := by
 obtain ⟨h1, h2⟩ := h
 have h0 : 0 < cargs.size := by rw [h1]; simp
 refine ⟨cargs[0], ?_, h2 0 v _ rfl (Array.getElem?_eq_getElem h0)⟩
 apply Array.ext
 ·simpa using h1
 ·intro i hi hi'
  have : i = 0 := by simp at h1; omega
  subst this
  rfl
theorem lrel_st {w : World} {g : Gh} {l : List UInt8} {cargs : Array Value} (h : LRel w g [.st l] cargs) : cargs = #[.string ⟨l.toArray⟩] := by
 obtain ⟨cv, rfl, hr⟩ := lrel_one h
 cases hr
 rfl
end Go.Proofs.YtleljbiejeofgaaGreatDoor.Pe
namespace Go.Proofs.YtleljbiejeofgaaGreatDoor.Pe
open Go
set_option maxRecDepth 100000
theorem zpre :
  (type_of% @AW_skip) ∧
  (type_of% @AW_reg) ∧
  (type_of% @AW_seq) ∧
  (type_of% @AW_cond) ∧
  (type_of% @AW_block) ∧
  (type_of% @AW_loop) ∧
  (type_of% @AW_exit) ∧
  (type_of% @AW_ret) ∧
  (type_of% @thenQ_norm) ∧
  (type_of% @thenQ_ret) ∧
  (type_of% @thenQ_exit) ∧
  (type_of% @blockQ_norm) ∧
  (type_of% @blockQ_ret) ∧
  (type_of% @blockQ_same) ∧
  (type_of% @blockQ_exit) ∧
  (type_of% @ARg_nil) ∧
  (type_of% @ARg_cons) ∧
  (type_of% @ARgk_apply) ∧
  (type_of% @ARg_guard) ∧
  (type_of% @AOp_move) ∧
  (type_of% @AOp_assign) ∧
  (type_of% @AOp_load) ∧
  (type_of% @AOp_store) ∧
  (type_of% @AOp_box) ∧
  (type_of% @AOp_alloc) ∧
  (type_of% @AOp_lit) ∧
  (type_of% @AOp_make) ∧
  (type_of% @AOp_func) ∧
  (type_of% @AOp_tmp) ∧
  (type_of% @AOp_append) ∧
  (type_of% @AOp_len) ∧
  (type_of% @AOp_min) ∧
  (type_of% @AOp_max) ∧
  (type_of% @AOp_pick) ∧
  (type_of% @AOp_nil) ∧
  (type_of% @AOp_bin) ∧
  (type_of% @aBinO_tmp) ∧
  (type_of% @aBinO_int) ∧
  (type_of% @aBinO_str) ∧
  (type_of% @aBinO_bool) ∧
  (type_of% @aBinO_agg) ∧
  (type_of% @aBinO_ptr) ∧
  (type_of% @aBinO_map) ∧
  (type_of% @aBinO_nfn) ∧
  (type_of% @aBinO_nil) ∧
  (type_of% @AOp_un) ∧
  (type_of% @AOp_fn) ∧
  (type_of% @AOp_slice) ∧
  (type_of% @AOp_fieldAddr) ∧
  (type_of% @AOp_field) ∧
  (type_of% @AOp_indexAddr) ∧
  (type_of% @AOp_index) ∧
  (type_of% @AOp_extract) ∧
  (type_of% @AOp_build) ∧
  (type_of% @AOp_conv) ∧
  (type_of% @AOp_mkMap) ∧
  (type_of% @AOp_insert) ∧
  (type_of% @AOp_mapUpd) ∧
  (type_of% @AOp_lookup) ∧
  (type_of% @AOp_range) ∧
  (type_of% @AOp_next) ∧
  (type_of% @ev_tmp) ∧
  (type_of% @ev_const) ∧
  (type_of% @ev_global) ∧
  (type_of% @ev_func) ∧
  (type_of% @put_some) ∧
  (type_of% @put_none) ∧
  (type_of% @upd_apply) ∧
  (type_of% @argEnv_zero) ∧
  (type_of% @argEnv_succ) ∧
  (type_of% @cst_bool) ∧
  (type_of% @cst_int) ∧
  (type_of% @cst_string) ∧
  (type_of% @cst_nil) ∧
  (type_of% @cst_pnil) ∧
  (type_of% @cst_fnil) ∧
  (type_of% @cst_mnil) :=
 ⟨@AW_skip, @AW_reg, @AW_seq, @AW_cond, @AW_block, @AW_loop, @AW_exit, @AW_ret, @thenQ_norm, @thenQ_ret, @thenQ_exit, @blockQ_norm, @blockQ_ret, @blockQ_same, @blockQ_exit, @ARg_nil, @ARg_cons, @ARgk_apply, @ARg_guard, @AOp_move, @AOp_assign, @AOp_load, @AOp_store, @AOp_box, @AOp_alloc, @AOp_lit, @AOp_make, @AOp_func, @AOp_tmp, @AOp_append, @AOp_len, @AOp_min, @AOp_max, @AOp_pick, @AOp_nil, @AOp_bin, @aBinO_tmp, @aBinO_int, @aBinO_str, @aBinO_bool, @aBinO_agg, @aBinO_ptr, @aBinO_map, @aBinO_nfn, @aBinO_nil, @AOp_un, @AOp_fn, @AOp_slice, @AOp_fieldAddr, @AOp_field, @AOp_indexAddr, @AOp_index, @AOp_extract, @AOp_build, @AOp_conv, @AOp_mkMap, @AOp_insert, @AOp_mapUpd, @AOp_lookup, @AOp_range, @AOp_next, @ev_tmp, @ev_const, @ev_global, @ev_func, @put_some, @put_none, @upd_apply, @argEnv_zero, @argEnv_succ, @cst_bool, @cst_int, @cst_string, @cst_nil, @cst_pnil, @cst_fnil, @cst_mnil⟩
theorem zpost :
  (type_of% @convP_bytes) ∧
  (type_of% @convP_int) ∧
  (type_of% @convP_str) ∧
  (type_of% @cst_agg) ∧
  (type_of% @bindO_some) ∧
  (type_of% @List.take_length.{0}) ∧
  (type_of% @aSet_st) ∧
  (type_of% @aSet_succ) ∧
  (type_of% @aSet_zero) ∧
  (type_of% @aSet_nil) ∧
  (type_of% @mkz_one) ∧
  (type_of% @false_and) ∧
  (type_of% @okO_true) ∧
  (type_of% @orO_none) ∧
  (type_of% @orO_some) ∧
  (type_of% @bindO_none) ∧
  (type_of% @bindV_some) ∧
  (type_of% @bindS_some) ∧
  (type_of% @bindC_some) ∧
  (type_of% @bindZ_some) ∧
  (type_of% @bindR_some) ∧
  (type_of% @bindM_some) ∧
  (type_of% @guardP_some) ∧
  (type_of% @pickV_bo) ∧
  (type_of% @wrap64) ∧
  (type_of% @iteS) ∧
  (type_of% @fits_ok) ∧
  (type_of% @beq_t) ∧
  (type_of% @beq_f) ∧
  (type_of% @dT) ∧
  (type_of% @dF) ∧
  (type_of% @beqT) ∧
  (type_of% @beqF) ∧
  (type_of% @bneT) ∧
  (type_of% @bneF) ∧
  (type_of% @iteP_trueW) ∧
  (type_of% @iteP_falseW) ∧
  (type_of% @iteP_trueO) ∧
  (type_of% @iteP_falseR) ∧
  (type_of% @condP_bo) ∧
  (type_of% @fnP_fn) ∧
  (type_of% @fnP_yield) ∧
  (type_of% @pickP_bo) ∧
  (type_of% @Bool.or_true) ∧
  (type_of% @Bool.true_or) ∧
  (type_of% @Bool.or_false) ∧
  (type_of% @Bool.false_or) ∧
  (type_of% @decide_true) ∧
  (type_of% @decide_false) ∧
  (type_of% @Bool.not_true) ∧
  (type_of% @Bool.not_false) ∧
  (type_of% @Bool.true_and) ∧
  (type_of% @Bool.and_true) ∧
  (type_of% @Bool.false_and) ∧
  (type_of% @Bool.and_false) ∧
  (type_of% @beq_self_eq_true.{0}) ∧
  (type_of% @List.map_cons.{0, 0}) ∧
  (type_of% @List.map_nil.{0, 0}) ∧
  (type_of% @List.nil_append.{0}) ∧
  (type_of% @List.append_nil.{0}) ∧
  (type_of% @List.cons_append.{0}) ∧
  (type_of% @List.length_nil.{0}) ∧
  (type_of% @List.length_cons.{0}) ∧
  (type_of% @List.length_map.{0, 0}) ∧
  (type_of% @List.length_append.{0}) ∧
  (type_of% @List.getElem?_cons_zero.{0}) ∧
  (type_of% @List.getElem?_cons_succ.{0}) ∧
  (type_of% @List.getElem?_nil.{0}) ∧
  (type_of% @List.getElem?_toArray.{0}) ∧
  (type_of% @List.set_cons_zero.{0}) ∧
  (type_of% @List.set_cons_succ.{0}) ∧
  (type_of% @List.contains_cons.{0}) ∧
  (type_of% @List.contains_nil.{0}) ∧
  (type_of% @List.elem_nil.{0}) ∧
  (type_of% @allSz_st) ∧
  (type_of% @allSz_u8) ∧
  (type_of% @allSz_append) ∧
  (type_of% @allSz_cons) ∧
  (type_of% @allSz_nil) ∧
  (type_of% @List.getElem?_map.{0, 0}) ∧
  (type_of% @bytesOf_map) ∧
  (type_of% @List.range'_succ) ∧
  (type_of% @List.range'_zero) ∧
  (type_of% @List.cons.injEq.{0}) ∧
  (type_of% @List.take_succ_cons.{0}) ∧
  (type_of% @List.take_zero.{0}) ∧
  (type_of% @List.drop_succ_cons.{0}) ∧
  (type_of% @List.drop_zero.{0}) ∧
  (type_of% @List.take_nil.{0}) ∧
  (type_of% @List.drop_nil.{0}) ∧
  (type_of% @Option.map_some.{0, 0}) ∧
  (type_of% @Option.map_none.{0, 0}) ∧
  (type_of% @Option.isSome_some.{0}) ∧
  (type_of% @Option.isNone_none.{0}) ∧
  (type_of% @Option.all_some.{0}) ∧
  (type_of% @and_self) ∧
  (type_of% @and_true) ∧
  (type_of% @true_and) ∧
  (type_of% @ne_eq.{0}) ∧
  (type_of% @not_true_eq_false) ∧
  (type_of% @not_false_eq_true) ∧
  (type_of% @Bool.false_eq_true) ∧
  (type_of% @Nat.zero_add) ∧
  (type_of% @Nat.add_zero) ∧
  (type_of% @Int.toNat_natCast) ∧
  (type_of% @Nat.zero_le) ∧
  (type_of% @Nat.le_refl) ∧
  (type_of% @List.all_cons.{0}) ∧
  (type_of% @List.all_nil.{0}) ∧
  (type_of% @Nat.not_lt_zero) ∧
  (type_of% @true_implies) ∧
  (type_of% @forall_const.{0}) :=
 ⟨@convP_bytes, @convP_int, @convP_str, @cst_agg, @bindO_some, @List.take_length, @aSet_st, @aSet_succ, @aSet_zero, @aSet_nil, @mkz_one, @false_and, @okO_true, @orO_none, @orO_some, @bindO_none, @bindV_some, @bindS_some, @bindC_some, @bindZ_some, @bindR_some, @bindM_some, @guardP_some, @pickV_bo, @wrap64, @iteS, @fits_ok, @beq_t, @beq_f, @dT, @dF, @beqT, @beqF, @bneT, @bneF, @iteP_trueW, @iteP_falseW, @iteP_trueO, @iteP_falseR, @condP_bo, @fnP_fn, @fnP_yield, @pickP_bo, @Bool.or_true, @Bool.true_or, @Bool.or_false, @Bool.false_or, @decide_true, @decide_false, @Bool.not_true, @Bool.not_false, @Bool.true_and, @Bool.and_true, @Bool.false_and, @Bool.and_false, @beq_self_eq_true, @List.map_cons, @List.map_nil, @List.nil_append, @List.append_nil, @List.cons_append, @List.length_nil, @List.length_cons, @List.length_map, @List.length_append, @List.getElem?_cons_zero, @List.getElem?_cons_succ, @List.getElem?_nil, @List.getElem?_toArray, @List.set_cons_zero, @List.set_cons_succ, @List.contains_cons, @List.contains_nil, @List.elem_nil, @allSz_st, @allSz_u8, @allSz_append, @allSz_cons, @allSz_nil, @List.getElem?_map, @bytesOf_map, @List.range'_succ, @List.range'_zero, @List.cons.injEq, @List.take_succ_cons, @List.take_zero, @List.drop_succ_cons, @List.drop_zero, @List.take_nil, @List.drop_nil, @Option.map_some, @Option.map_none, @Option.isSome_some, @Option.isNone_none, @Option.all_some, @and_self, @and_true, @true_and, @ne_eq, @not_true_eq_false, @not_false_eq_true, @Bool.false_eq_true, @Nat.zero_add, @Nat.add_zero, @Int.toNat_natCast, @Nat.zero_le, @Nat.le_refl, @List.all_cons, @List.all_nil, @Nat.not_lt_zero, @true_implies, @forall_const⟩
end Go.Proofs.YtleljbiejeofgaaGreatDoor.Pe
end
section
namespace Go.Proofs.YtleljbiejeofgaaGreatDoor.Pe
open Go Go.RowKit Go.WideShapes Go.ChangeShapes
def rowLen (W : World) (b : Nat) : Nat :=
 match W.heap[b]? with
 | some (.cells cs _ _) => cs.size
 | _ => 0
def g0 (W : World) : Gh := ⟨rowLen W, fun _ => 0, fun _ _ => False, 0, fun _ => false, fun _ => 0, fun _ => 0⟩
theorem lt_rowLen {W : World} {b o : Nat} {v : Value} (h : W.cell? ⟨b, o, none⟩ = some v) : o < rowLen W b := by
 unfold World.cell? at h
 unfold rowLen
 cases hb : W.heap[b]? with
 | none => simp [hb] at h
 | some ob =>
  cases ob with
  | cells cs t fr =>
   simp only [hb] at h ⊢
   by_cases hlt : o < cs.size
   ·exact hlt
   ·have hn : cs[o]? = none := Array.getElem?_eq_none (by omega)
    simp [hn] at h
  | _ => simp [hb] at h
theorem wf0 [Tab] {W : World} (h : ∀ b i v, Tab.T b i = some v → W.cell? ⟨b, i, none⟩ = some v) : WF W (g0 W) [] :=
 ⟨rfl, fun l o hl => by simp at hl, fun l l' b hl => absurd hl (Nat.not_lt_zero _), fun l b hl => absurd hl (Nat.not_lt_zero _), fun b i v hv => ⟨lt_rowLen (h b i v hv), h b i v hv⟩⟩
theorem evo_below {W W' : World} {g' : Gh} (h : Evo W (g0 W) W' g') : Below W.heap.size W W' :=
 ⟨h.os, h.tape, h.output, h.size, fun b hb => h.old b hb fun l hl => absurd hl (Nat.not_lt_zero _)⟩
theorem law_run [Tab] {P : Program} {f : FuncId} {args : List AV} {S' : Store} {b : Bool} (h : AC P f args [] (.bo b) S') {W : World} (hT : ∀ b i v, Tab.T b i = some v → W.cell? ⟨b, i, none⟩ = some v) {cargs : Array Value} (ha : LRel W (g0 W) args cargs) :
  Calls P f cargs W fun e W' => e = .returned (.bool b) ∧ Below W.heap.size W W' :=
 (h.run W (g0 W) cargs (wf0 hT) ha).mono fun e W' ⟨cv, g', he, _, hr, hev⟩ => by
  cases hr
  exact ⟨he, evo_below hev⟩
theorem lrel0 {w : World} {g : Gh} : LRel w g [] #[] := ⟨rfl, fun j u v hu => by simp at hu⟩
theorem lrelL {w : World} {g : Gh} {us : List AV} {vs : List Value} {u : AV} {v : Value} (h : Rel w g u v) (hs : LRel w g us vs.toArray) : LRel w g (u :: us) (v :: vs).toArray := by
 refine ⟨by have := hs.1; simp at this; simp [this], fun j a b ha hb => ?_⟩
 cases j with
 | zero => simp at ha hb; subst ha hb; exact h
 | succ j => exact hs.2 j a b (by simpa using ha) (by simpa using hb)
theorem rel_string (W : World) (g : Gh) (x : ByteArray) : Rel W g (.st x.data.toList) (.string x) := by
 have := Rel.st (w := W) g x.data.toList
 rwa [show (⟨x.data.toList.toArray⟩ : ByteArray) = x from by rw [Array.toArray_toList]] at this
theorem rel_nil (W : World) (g : Gh) : Rel W g (.sl .ro []) (.slice none 0 0) :=
 .sl g .ro [] none 0 0 (fun _ => .bool false) (Nat.le_refl _) (Nat.zero_le _) (fun e he => by simp at he) (fun h => absurd h (by simp)) (fun j hj => by simp [flat] at hj) (fun j u hu => by simp [flat] at hu) trivial
end Go.Proofs.YtleljbiejeofgaaGreatDoor.Pe
namespace Go.Proofs.YtleljbiejeofgaaGreatDoor.Pe
open Go Go.RowKit Go.ChangeShapes
def consF (P : Program) (t : TypeId) : List Field → Nat → Bool
 | [], o => o == P.cellsOf t
 | f :: r, o => f.offset == o && consF P t r (o + P.cellsOf f.type)
def aggT (P : Program) (t : TypeId) : Bool := match P.underlying t with
 | some (.struct _) => true
 | _ => false
def fo (P : Program) : Nat → TypeId → Bool
 | 0, _ => false
 | n + 1, t => match P.underlying t with
  | some .bool => P.cellsOf t == 1
  | some .string => P.cellsOf t == 1
  | some (.int _) => P.cellsOf t == 1
  | some (.slice e) => P.cellsOf t == 1 && decide (0 < P.cellsOf e) && decide (0 < P.bytesOf e) && fo P n e
  | some (.struct fs) => consF P t fs.toList 0 && fs.toList.all fun f => fo P n f.type
  | _ => false
def el (ag : Bool) (us : List AV) : AV := if ag then .agg us else us.headD .junk
def shpF (S : TypeId → List AV → Prop) : List Field → List AV → Prop
 | [], us => us = []
 | f :: r, us => ∃ a b, us = a ++ b ∧ S f.type a ∧ shpF S r b
def shp (P : Program) (B : Nat) : Nat → TypeId → List AV → Prop
 | 0, _, _ => False
 | n + 1, t, us => match P.underlying t with
  | some .bool => ∃ b, us = [.bo b]
  | some .string => ∃ l : List UInt8, us = [.st l] ∧ l.length ≤ B
  | some (.int k) => ∃ i, us = [.it k i] ∧ (Lit.int k i).wf = true
  | some (.slice e) => ∃ es : List (List AV), us = [.sl .ro (es.map (el (aggT P e)))] ∧ (∀ x ∈ es, shp P B n e x) ∧ es.length ≤ B
  | some (.struct fs) => shpF (shp P B n) fs.toList us
  | _ => False
section
variable {P : Program}
theorem el_cells {B n : Nat} {t : TypeId} {us : List AV} (h : shp P B n t us) : (el (aggT P t) us).cells = us := by
 cases n with
 | zero => cases h
 | succ n =>
  unfold shp at h
  unfold aggT
  split at h
  ·rename_i hu; rw [hu]; obtain ⟨b, rfl⟩ := h; rfl
  ·rename_i hu; rw [hu]; obtain ⟨b, rfl, _⟩ := h; rfl
  ·rename_i hu; rw [hu]; obtain ⟨b, rfl, _⟩ := h; rfl
  ·rename_i hu; rw [hu]; obtain ⟨b, rfl, _⟩ := h; rfl
  ·rename_i hu; rw [hu]; rfl
  ·cases h
theorem CellsRel.nil (w : World) (g : Gh) : CellsRel w g [] #[] := ⟨rfl, by simp, by simp⟩
theorem CellsRel.one {w : World} {g : Gh} {u : AV} {v : Value} (h : Rel w g u v) (h1 : v.oneCell' = true) : CellsRel w g [u] #[v] := by
 refine ⟨rfl, by simpa using h1, fun j x y hx hy => ?_⟩
 match j with
 | 0 => cases hx; cases hy; exact h
 | j + 1 => simp at hx
theorem CellsRel.app {w : World} {g : Gh} {us us' : List AV} {vs vs' : List Value} (h : CellsRel w g us vs.toArray) (h' : CellsRel w g us' vs'.toArray) : CellsRel w g (us ++ us') (vs ++ vs').toArray := by
 obtain ⟨a1, a2, a3⟩ := h
 obtain ⟨b1, b2, b3⟩ := h'
 have a1 : vs.length = us.length := by simpa using a1
 have b1 : vs'.length = us'.length := by simpa using b1
 refine ⟨by simp [a1, b1], fun v hv => ?_, fun j x y hx hy => ?_⟩
 ·rcases List.mem_append.1 hv with hv | hv
  ·exact a2 v hv
  ·exact b2 v hv
 ·by_cases hj : j < us.length
  ·rw [List.getElem?_append_left hj] at hx
   have hy : vs[j]? = some y := by rw [← List.getElem?_append_left (l₂ := vs') (by omega)]; simpa using hy
   exact a3 j x y hx (by simpa using hy)
  ·rw [List.getElem?_append_right (by omega)] at hx
   have hy : vs'[j - us.length]? = some y := by
    have : (vs ++ vs')[j]? = some y := by simpa using hy
    rw [List.getElem?_append_right (by omega), a1] at this
    exact this
   exact b3 _ x y hx (by simpa using hy)
theorem flat_els (f : List AV → AV) (es : List (List AV)) (h : ∀ x ∈ es, (f x).cells = x) : flat (es.map f) = es.flatten := by
 induction es with
 | nil => rfl
 | cons x es ih =>
  rw [List.map_cons, flat, List.flatMap_cons, h x (by simp), List.flatten_cons]
  exact congrArg _ (ih fun y hy => h y (by simp [hy]))
theorem flatten_at {α : Type} {sz : Nat} : ∀ {es : List (List α)} (_ : ∀ x ∈ es, x.length = sz) (j : Nat) (u : α), es.flatten[j]? = some u → ∃ i k x, es[i]? = some x ∧ x[k]? = some u ∧ k < sz ∧ j = i * sz + k
 | [], _, j, u, h => by simp at h
 | x :: es, hs, j, u, h => by
  have hx := hs x (by simp)
  rw [List.flatten_cons] at h
  by_cases hj : j < x.length
  ·rw [List.getElem?_append_left hj] at h
   exact ⟨0, j, x, rfl, h, by omega, by omega⟩
  ·rw [List.getElem?_append_right (by omega)] at h
   obtain ⟨i, k, y, h1, h2, h3, h4⟩ := flatten_at (fun y hy => hs y (by simp [hy])) _ u h
   exact ⟨i + 1, k, y, by simpa using h1, h2, h3, by rw [Nat.succ_mul]; omega⟩
theorem flatten_len {α : Type} {sz : Nat} : ∀ {es : List (List α)} (_ : ∀ x ∈ es, x.length = sz), es.flatten.length = es.length * sz
 | [], _ => by simp
 | x :: es, hs => by
  rw [List.flatten_cons, List.length_append, flatten_len (fun y hy => hs y (by simp [hy])), hs x (by simp), List.length_cons, Nat.succ_mul]; omega
theorem weightsAll_mem' {H : Type} {e : TypeId} {l : List (DataW H)} {d : DataW H} {n : Nat} (hd : d ∈ l) (hn : n ∈ d.weights P e) : n ∈ DataW.weightsAll P e l := by
 induction l with
 | nil => cases hd
 | cons a l ih =>
  rw [DataW.weightsAll]
  rcases List.mem_cons.1 hd with rfl | hd
  ·exact List.mem_append_left _ hn
  ·exact List.mem_append_right _ (ih hd)
variable {H : Type} {enc : TypeId × Value → H} {W : World} {base : Nat} {spare : Nat → Bool} {held : Bool}
theorem open_any (B : Nat) : ∀ (n fuel : Nat) (t : TypeId) (cs : List Value) (x : DataW H × List MemPlace), fo P n t = true → DataW.trod enc P W base spare held fuel t cs = some x → (∀ m ∈ x.1.weights P t, m ≤ B) →
  ∃ us, shp P B n t us ∧ CellsRel W (g0 W) us cs.toArray ∧ cs.length = P.cellsOf t := by
 intro n
 induction n with
 | zero => intro fuel t cs x h; cases h
 | succ n ih =>
  intro fuel t cs x hf ht hwt
  unfold fo at hf
  unfold shp
  split at hf <;> rename_i hu
  ·obtain ⟨b, rfl, _⟩ := DataW.trod_bool hu ht
   exact ⟨[.bo b], ⟨b, rfl⟩, CellsRel.one (.bo _ b) rfl, by simpa using Eq.symm (by simpa using hf)⟩
  ·obtain ⟨s, rfl, rfl, hs⟩ := DataW.trod_string hu ht
   exact ⟨[.st s.data.toList], ⟨_, rfl, by simpa [DataW.weights] using hwt s.data.toList.length (by simp [DataW.weights])⟩, CellsRel.one (rel_string W _ s) rfl, by simpa using Eq.symm (by simpa using hf)⟩
  ·obtain ⟨i, rfl, _, hi⟩ := DataW.trod_int hu ht
   exact ⟨[.it _ i], ⟨i, rfl, hi⟩, CellsRel.one (.it _ _ i) rfl, by simpa using Eq.symm (by simpa using hf)⟩
  ·rename_i e
   simp only [Bool.and_eq_true, decide_eq_true_eq, beq_iff_eq] at hf
   obtain ⟨⟨⟨hc, hpos⟩, hbp⟩, hfe⟩ := hf
   rcases Go.Deep.open_slice hu ht with ⟨rfl, _⟩ | ⟨a, len, cap, m, k, D, Pl, rfl, _, hle, hmx, hm, rfl, hx⟩
   ·exact ⟨[.sl .ro []], ⟨[], rfl, by simp, Nat.zero_le _⟩, CellsRel.one (rel_nil W _) rfl, by simpa using hc.symm⟩
   have hlm : len ≤ m := by rw [hm]; split <;> omega
   obtain ⟨U, hU⟩ := Go.Deep.choose_lt (α := List AV × List Value) (n := len) (p := fun i q => shp P B n e q.1 ∧ CellsRel W (g0 W) q.1 q.2.toArray ∧ q.2.length = P.cellsOf e ∧ W.cells? base (a.add (i * P.cellsOf e)) (P.cellsOf e) = some q.2) (fun i hi => by
    obtain ⟨cs', h1, h2⟩ := hx i (by omega)
    obtain ⟨us, h3, h4, h5⟩ := ih _ _ _ _ hfe h2 (fun y hy => hwt y (by
     simp only [DataW.weights, hu]
     exact List.mem_cons_of_mem _ (List.mem_append_left _ (weightsAll_mem' (List.mem_map.2 ⟨i, by simpa using hi, rfl⟩) hy))))
    exact ⟨(us, cs'), h3, h4, h5, h1⟩)
   have hes : ∀ x ∈ (List.range len).map fun i => (U i).1, shp P B n e x := fun x hx => by
    obtain ⟨i, hi, rfl⟩ := List.mem_map.1 hx
    exact (hU i (by simpa using hi)).1
   have hsz : ∀ x ∈ (List.range len).map fun i => (U i).1, x.length = P.cellsOf e := fun x hx => by
    obtain ⟨i, hi, rfl⟩ := List.mem_map.1 hx
    have h := hU i (by simpa using hi)
    have := h.2.1.1
    rw [← this]
    simpa using h.2.2.1
   have hlB : len ≤ B := by
    have h := hwt ((((List.range len).map D).length + ((List.range (m - len)).map fun j => D (len + j)).length) * P.bytesOf e) (by simp only [DataW.weights, hu]; exact List.mem_cons_self ..)
    rw [List.length_map, List.length_range] at h
    exact Nat.le_trans (Nat.le_trans (Nat.le_add_right _ _) (Nat.le_mul_of_pos_right _ hbp)) h
   refine ⟨_, ⟨(List.range len).map fun i => (U i).1, rfl, hes, by simpa using hlB⟩, CellsRel.one ?_ rfl, by simpa using hc.symm⟩
   have hfl : flat (((List.range len).map fun i => (U i).1).map (el (aggT P e))) = ((List.range len).map fun i => (U i).1).flatten := flat_els _ _ fun x hx => el_cells (hes x hx)
   have hln : (((List.range len).map fun i => (U i).1).map (el (aggT P e))).length = len := by simp
   have hcell : ∀ j u, ((List.range len).map fun i => (U i).1).flatten[j]? = some u → ∃ v, W.cell? (a.add j) = some v ∧ v.oneCell' = true ∧ Rel W (g0 W) u v := by
    intro j u hj
    obtain ⟨i, k', x, h1, h2, h3, rfl⟩ := flatten_at hsz j u hj
    rw [List.getElem?_map] at h1
    by_cases hi : i < len
    ·rw [List.getElem?_range hi] at h1
     simp only [Option.map_some, Option.some.injEq] at h1
     subst h1
     obtain ⟨g1, g2, g3, g4⟩ := hU i hi
     obtain ⟨_, c2, c3⟩ := World.cells?_some g4
     have hk : k' < (U i).2.length := by omega
     have c4 := c3 k' h3
     rw [List.getElem?_eq_getElem hk] at c4
     refine ⟨(U i).2[k'], ?_, g2.2.1 _ (by simp), g2.2.2 k' u _ h2 (by simp [hk])⟩
     rw [← c4]
     congr 1
     generalize i * P.cellsOf e = y
     unfold Addr.add
     by_cases hy : y = 0 <;> by_cases hk : k' = 0 <;> simp [hy, hk, Nat.add_assoc]
    ·rw [List.getElem?_eq_none (by simp; omega)] at h1
     cases h1
   have hfln := flatten_len hsz
   rw [List.length_map, List.length_range] at hfln
   have hget : ∀ j, j < ((List.range len).map fun i => (U i).1).flatten.length → ∃ u, ((List.range len).map fun i => (U i).1).flatten[j]? = some u := fun j hj => ⟨_, List.getElem?_eq_getElem hj⟩
   have h := Rel.sl (w := W) (g0 W) .ro (((List.range len).map fun i => (U i).1).map (el (aggT P e))) (some a) cap (P.cellsOf e) (fun j => (W.cell? (a.add j)).getD default) (by rw [hln]; exact hle) hmx
    (fun x hx => by
     obtain ⟨y, hy, rfl⟩ := List.mem_map.1 hx
     rw [el_cells (hes y hy), hsz y hy])
    (fun h0 => ?_) (fun j hj => ?_) (fun j u hu' => ?_) trivial
   ·rw [hln] at h; exact h
   ·rw [hln] at h0
    obtain ⟨b, off, spot⟩ := a
    have hp0 : 0 < ((List.range len).map fun i => (U i).1).flatten.length := by rw [hfln]; exact Nat.mul_pos h0 hpos
    have hspot : spot = none := by
     obtain ⟨u, hu'⟩ := hget 0 hp0
     obtain ⟨v, hv, _⟩ := hcell 0 u hu'
     simpa [Addr.add] using World.cell?_spot hv
    subst hspot
    refine ⟨b, off, rfl, fun j hj => ?_⟩
    rw [hfl] at hj
    obtain ⟨u, hu'⟩ := hget j hj
    obtain ⟨v, hv, _⟩ := hcell j u hu'
    rw [Addr.add_lit] at hv
    refine ⟨lt_rowLen hv, ?_⟩
    show _ = some ((W.cell? (Addr.add ⟨b, off, none⟩ j)).getD default)
    rw [Addr.add_lit, hv]; rfl
   ·rw [hfl] at hj
    obtain ⟨u, hu'⟩ := hget j hj
    obtain ⟨v, hv, h1, _⟩ := hcell j u hu'
    show ((W.cell? (a.add j)).getD default).oneCell' = true
    rw [hv]; exact h1
   ·rw [hfl] at hu'
    obtain ⟨v, hv, _, h2⟩ := hcell j u hu'
    show Rel W (g0 W) u ((W.cell? (a.add j)).getD default)
    rw [hv]; exact h2
  ·rename_i fs
   simp only [Bool.and_eq_true, List.all_eq_true] at hf
   obtain ⟨xs, k, _, rfl, hl, hlen, hx⟩ := DataW.trod_struct hu ht
   suffices H : ∀ (r : List Field) (o i : Nat), consF P t r o = true → (∀ f ∈ r, fo P n f.type = true) → r = fs.toList.drop i → o ≤ cs.length →
     ∃ us, shpF (shp P B n) r us ∧ CellsRel W (g0 W) us (cs.drop o).toArray by
    obtain ⟨us, h1, h2⟩ := H fs.toList 0 0 hf.1 hf.2 rfl (Nat.zero_le _)
    exact ⟨us, h1, by simpa using h2, hl⟩
   intro r
   induction r with
   | nil =>
    intro o i hc _ _ ho
    have : o = cs.length := by rw [hl]; simpa [consF] using hc
    subst this
    exact ⟨[], rfl, by rw [List.drop_length]; exact CellsRel.nil _ _⟩
   | cons f r ihr =>
    intro o i hc hall hr ho
    simp only [consF, Bool.and_eq_true, beq_iff_eq] at hc
    have hfi : fs[i]? = some f := by
     have : (fs.toList.drop i)[0]? = some f := by rw [← hr]; rfl
     simpa using this
    have hil : i < xs.length := by
     rw [hlen]
     exact (Array.getElem?_eq_some_iff.1 hfi).1
    have hxi := hx i f hfi
    rw [List.getElem?_eq_getElem hil] at hxi
    obtain ⟨us, h1, h2, h3⟩ := ih _ _ _ _ (hall f (by simp)) hxi (fun y hy => hwt y (by
     simp only [DataW.weights, hu]
     refine DataW.weights_mem_each (j := i) (t := f.type) (d := (xs[i]).1) ?_ ?_ y hy
     ·rw [List.getElem?_map, Array.getElem?_toList, hfi]; rfl
     ·rw [List.getElem?_map, List.getElem?_eq_getElem hil]; rfl))
    rw [hc.1] at h2 h3
    rw [List.length_take, List.length_drop] at h3
    obtain ⟨us', h4, h5⟩ := ihr (o + P.cellsOf f.type) (i + 1) hc.2 (fun f' hf' => hall f' (by simp [hf'])) (by rw [← List.drop_drop, ← hr]; rfl) (by omega)
    refine ⟨us ++ us', ⟨us, us', rfl, h1, h4⟩, ?_⟩
    have := CellsRel.app h2 h5
    rw [← List.drop_drop, List.take_append_drop] at this
    exact this
  ·cases hf
theorem open_cell {B n : Nat} {t : TypeId} {v : Value} {d : DataW H} {p : List MemPlace} (hf : fo P n t = true) (hv : v.cells = #[v]) (h : DataW.Trod enc P W base spare held t v d p) (hwt : ∀ m ∈ d.weights P t, m ≤ B) :
  ∃ us, shp P B n t us ∧ ∀ u, us = [u] → Rel W (g0 W) u v := by
 obtain ⟨fuel, h⟩ := h
 rw [hv] at h
 obtain ⟨us, h1, h2, _⟩ := open_any B n fuel t _ _ hf h hwt
 exact ⟨us, h1, fun u hu => h2.2.2 0 u v (by rw [hu]; rfl) rfl⟩
theorem shp_bool {B n : Nat} {t : TypeId} {us : List AV} (hu : P.underlying t = some .bool) (h : shp P B (n + 1) t us) : ∃ b, us = [.bo b] := by unfold shp at h; rw [hu] at h; exact h
theorem shp_int {B n : Nat} {k : IntKind} {t : TypeId} {us : List AV} (hu : P.underlying t = some (.int k)) (h : shp P B (n + 1) t us) : ∃ i, us = [.it k i] ∧ (Lit.int k i).wf = true := by unfold shp at h; rw [hu] at h; exact h
theorem shp_i64 {B n : Nat} {t : TypeId} {us : List AV} (hu : P.underlying t = some (.int .i64)) (h : shp P B (n + 1) t us) : ∃ i, us = [.it .i64 i] ∧ -9223372036854775808 ≤ i ∧ i ≤ 9223372036854775807 := by
 obtain ⟨i, rfl, w⟩ := shp_int hu h
 clear h
 have h : (decide (IntKind.i64.min ≤ i) && decide (i ≤ IntKind.i64.max)) = true := w
 simp only [Bool.and_eq_true, decide_eq_true_eq] at h
 have h1 : IntKind.i64.min = -9223372036854775808 := by decide
 have h2 : IntKind.i64.max = 9223372036854775807 := by decide
 rw [h1, h2] at h
 exact ⟨i, rfl, h⟩
theorem shp_slice {α : Type} {B n : Nat} {t e : TypeId} {us : List AV} (enc : α → AV) (Q : α → Prop) (hu : P.underlying t = some (.slice e)) (h : shp P B (n + 1) t us) (he : ∀ x, shp P B n e x → ∃ a, el (aggT P e) x = enc a ∧ Q a) :
  ∃ l : List α, us = [.sl .ro (l.map enc)] ∧ l.length ≤ B ∧ ∀ a ∈ l, Q a := by
 unfold shp at h
 rw [hu] at h
 obtain ⟨es, rfl, h1, h2⟩ := h
 suffices H : ∃ l : List α, es.map (el (aggT P e)) = l.map enc ∧ l.length = es.length ∧ ∀ a ∈ l, Q a by
  obtain ⟨l, e1, e2, e3⟩ := H
  exact ⟨l, by rw [e1], by omega, e3⟩
 clear h2
 induction es with
 | nil => exact ⟨[], rfl, rfl, by simp⟩
 | cons x es ih =>
  obtain ⟨l, e1, e2, e3⟩ := ih fun y hy => h1 y (by simp [hy])
  obtain ⟨a, e4, e5⟩ := he x (h1 x (by simp))
  exact ⟨a :: l, by rw [List.map_cons, List.map_cons, e1, e4], by simp [e2], fun b hb => by
   rcases List.mem_cons.1 hb with rfl | hb
   ·exact e5
   ·exact e3 b hb⟩
theorem shp_struct {B n : Nat} {t : TypeId} {fs : Array Field} {us : List AV} (hu : P.underlying t = some (.struct fs)) (h : shp P B (n + 1) t us) : shpF (shp P B n) fs.toList us := by unfold shp at h; rw [hu] at h; exact h
theorem weights_of {ts : List TypeId} {ds : List (DataW H)} (h : (DataW.weightsEach P ts ds).all (· ≤ reachBytes) = true) {j : Nat} {t : TypeId} {d : DataW H} (ht : ts[j]? = some t) (hd : ds[j]? = some d) : ∀ m ∈ d.weights P t, m ≤ 140737488351232 := fun m hm => by
 have := List.all_eq_true.1 h _ (DataW.weights_mem_each ht hd m hm)
 exact of_decide_eq_true this
end
end Go.Proofs.YtleljbiejeofgaaGreatDoor.Pe
end
section
namespace Go.Proofs.YtleljbiejeofgaaGreatDoor.Co
open Go
abbrev By := List UInt8
def numF : Nat → Nat → By
 | 0, _ => []
 | f + 1, n => if n < 128 then [UInt8.ofNat n] else UInt8.ofNat (128 + n % 128) :: numF f (n / 128)
theorem numF_eq : ∀ (f g n : Nat), n < f → n < g → numF f n = numF g n
 | 0, _, _, h, _ => by omega
 | _, 0, _, _, h => by omega
 | f + 1, g + 1, n, h, h' => by
  unfold numF
  by_cases hn : n < 128
  ·rw [if_pos hn, if_pos hn]
  ·rw [if_neg hn, if_neg hn, numF_eq f g (n / 128) (by omega) (by omega)]
def num (n : Nat) : By := numF (n + 1) n
theorem num_small {n : Nat} (h : n < 128) : num n = [UInt8.ofNat n] := by unfold num numF; rw [if_pos h]
theorem num_big {n : Nat} (h : ¬ n < 128) : num n = UInt8.ofNat (128 + n % 128) :: num (n / 128) := by
 unfold num
 rw [numF, if_neg h, numF_eq n (n / 128 + 1) (n / 128) (by omega) (by omega)]
theorem num_len (n : Nat) : 0 < (num n).length := by
 by_cases h : n < 128
 ·rw [num_small h]; simp
 ·rw [num_big h]; simp
theorem num_le (k : Nat) : ∀ n, n < 128 ^ (k + 1) → (num n).length ≤ k + 1 := by
 induction k with
 | zero => intro n h; rw [num_small (by omega)]; simp
 | succ k ih =>
  intro n h
  by_cases h1 : n < 128
  ·rw [num_small h1]; simp
  ·rw [num_big h1, List.length_cons]
   have := ih (n / 128) (by rw [Nat.div_lt_iff_lt_mul (by omega)]; rw [Nat.pow_succ] at h; omega)
   omega
def numI (n : Int) : By := if n < 0 then [] else num n.toNat
theorem numI_nat (n : Nat) : numI (n : Int) = num n := by unfold numI; rw [if_neg (by omega), Int.toNat_natCast]
theorem numI_le (n : Int) (h : n < 9223372036854775808) : (numI n).length ≤ 9 := by
 unfold numI
 split
 ·simp
 ·exact num_le 8 n.toNat (by omega)
def text (s : By) : By := num s.length ++ s
def list (l : List By) : By := num l.length ++ (l.map text).flatten
structure R where
 rest : By
 bad : Bool
def rdN : By → Nat → Nat → Option (Nat × By)
 | [], _, _ => none
 | d :: r, i, n => if 9 ≤ i then none else if 128 ≤ d.toNat then rdN r (i + 1) (n + (d.toNat - 128) * 2 ^ (7 * i)) else if d.toNat = 0 ∧ 0 < i then none else some (n + d.toNat * 2 ^ (7 * i), r)
theorem rdN_cons (d : UInt8) (r : By) (i n : Nat) : rdN (d :: r) i n = if 9 ≤ i then none else if 128 ≤ d.toNat then rdN r (i + 1) (n + (d.toNat - 128) * 2 ^ (7 * i)) else if d.toNat = 0 ∧ 0 < i then none else some (n + d.toNat * 2 ^ (7 * i), r) := rfl
def fail : R := ⟨[], true⟩
def R.num (x : R) : Nat × R := match rdN x.rest 0 0 with
 | some (n, r) => (n, ⟨r, x.bad⟩)
 | none => (0, fail)
def R.take (x : R) (n : Nat) : By × R := if x.bad = true ∨ x.rest.length < n then ([], fail) else (x.rest.take n, ⟨x.rest.drop n, x.bad⟩)
def R.text (x : R) : By × R := x.num.2.take x.num.1
def R.texts : Nat → R → List By × R
 | 0, x => ([], x)
 | n + 1, x => if x.bad then ([], x) else (x.text.1 :: (R.texts n x.text.2).1, (R.texts n x.text.2).2)
def R.list (x : R) : List By × R :=
 let y := if x.num.2.rest.length < x.num.1 then fail else x.num.2
 if (y.texts x.num.1).2.bad then ([], (y.texts x.num.1).2) else y.texts x.num.1
theorem rdN_lt : ∀ (l : By) (i n m : Nat) (r : By), i ≤ 9 → n < 2 ^ (7 * i) → rdN l i n = some (m, r) → m < 2 ^ 63 ∧ r.length < l.length
 | [], _, _, _, _, _, _, h => by cases h
 | d :: l, i, n, m, r, hi, hn, h => by
  unfold rdN at h
  have hd : d.toNat < 256 := d.toNat_lt
  split at h
  ·cases h
  rename_i h9
  have hp : 2 ^ (7 * (i + 1)) = 128 * 2 ^ (7 * i) := by rw [show 7 * (i + 1) = 7 + 7 * i from by omega, Nat.pow_add]
  split at h
  ·rename_i h128
   have hc : (d.toNat - 128) * 2 ^ (7 * i) ≤ 127 * 2 ^ (7 * i) := Nat.mul_le_mul_right _ (by omega)
   have := rdN_lt l (i + 1) _ m r (by omega) (by rw [hp]; omega) h
   have h2 := this.2
   exact ⟨this.1, Nat.lt_succ_of_lt h2⟩
  ·rename_i h128
   split at h
   ·cases h
   ·cases h
    have hc : d.toNat * 2 ^ (7 * i) ≤ 127 * 2 ^ (7 * i) := Nat.mul_le_mul_right _ (by omega)
    have hq : 2 ^ (7 * (i + 1)) ≤ 2 ^ 63 := Nat.pow_le_pow_right (by omega) (by omega)
    exact ⟨by rw [hp] at hq; omega, by simp⟩
theorem num_lt (x : R) : x.num.1 < 2 ^ 63 := by
 unfold R.num
 split
 ·rename_i n r h; exact (rdN_lt _ 0 0 _ _ (by omega) (by simp) h).1
 ·simp
theorem num_rest (x : R) : x.num.2.rest.length ≤ x.rest.length := by
 unfold R.num
 split
 ·rename_i n r h; have := (rdN_lt _ 0 0 _ _ (by omega) (by simp) h).2; show r.length ≤ _; omega
 ·exact Nat.zero_le _
theorem take_rest (x : R) (n : Nat) : (x.take n).2.rest.length ≤ x.rest.length ∧ (x.take n).1.length ≤ x.rest.length := by
 unfold R.take
 split
 ·exact ⟨Nat.zero_le _, Nat.zero_le _⟩
 ·refine ⟨?_, ?_⟩
  ·show (x.rest.drop n).length ≤ _; simp
  ·show (x.rest.take n).length ≤ _; simp; omega
theorem or_add (a c j : Nat) (ha : a < 2 ^ j) (h : a + c * 2 ^ j < 2 ^ 63) : Go.bits .or .i64 (a : Int) ((c * 2 ^ j : Nat) : Int) = ((a + c * 2 ^ j : Nat) : Int) := by
 have hor : a ||| c * 2 ^ j = a + c * 2 ^ j := by
  rw [Nat.or_comm, Nat.mul_comm, ← Nat.two_pow_add_eq_or_of_lt ha, Nat.add_comm]
 have e3 : (BitVec.ofNat 64 a ||| BitVec.ofNat 64 (c * 2 ^ j)).toNat = a + c * 2 ^ j := by
  rw [BitVec.toNat_or, BitVec.toNat_ofNat, BitVec.toNat_ofNat, Nat.mod_eq_of_lt (by omega), Nat.mod_eq_of_lt (by omega), hor]
 have e4 : Go.bits .or .i64 (a : Int) ((c * 2 ^ j : Nat) : Int) = IntKind.i64.wrap ((BitVec.ofInt 64 (a : Int) ||| BitVec.ofInt 64 ((c * 2 ^ j : Nat) : Int)).toNat : Int) := rfl
 rw [e4, BitVec.ofInt_natCast, BitVec.ofInt_natCast, e3]
 rw [IntKind.wrap_i64]; omega
theorem ofNat_lt {n : Nat} (h : n < 256) : (UInt8.ofNat n).toNat = n := by rw [UInt8.toNat_ofNat']; omega
theorem rdN_num : ∀ (f n i acc : Nat) (rest : By), n < f → i ≤ 8 → n < 2 ^ (63 - 7 * i) → (0 < i → 0 < n) → rdN (num n ++ rest) i acc = some (acc + n * 2 ^ (7 * i), rest)
 | 0, _, _, _, _, h, _, _, _ => by omega
 | f + 1, n, i, acc, rest, hf, hi, hn, h0 => by
  by_cases hs : n < 128
  ·rw [num_small hs, List.cons_append, List.nil_append, rdN_cons, ofNat_lt (by omega), if_neg (by omega), if_neg (by omega), if_neg (by omega)]
  ·have hi7 : i ≤ 7 := by
    refine Nat.le_of_not_lt fun h => ?_
    obtain rfl : i = 8 := by omega
    simp at hn
    omega
   rw [num_big hs, List.cons_append, rdN_cons, ofNat_lt (by omega), if_neg (by omega), if_pos (by omega)]
   have hp : 2 ^ (63 - 7 * i) = 128 * 2 ^ (63 - 7 * (i + 1)) := by rw [show 63 - 7 * i = 7 + (63 - 7 * (i + 1)) from by omega, Nat.pow_add]
   have hq : 2 ^ (7 * (i + 1)) = 128 * 2 ^ (7 * i) := by rw [show 7 * (i + 1) = 7 + 7 * i from by omega, Nat.pow_add]
   rw [rdN_num f (n / 128) (i + 1) _ rest (by omega) (by omega) (by omega) (fun _ => by omega)]
   congr 2
   rw [hq, show 128 + n % 128 - 128 = n % 128 from by omega, Nat.add_assoc]
   congr 1
   have : n = n % 128 + n / 128 * 128 := by omega
   generalize n % 128 = a at *
   generalize n / 128 = b at *
   rw [this, Nat.add_mul]
   congr 1
   rw [Nat.mul_assoc]
theorem num_back (n : Nat) (rest : By) (b : Bool) (h : n < 2 ^ 63) : R.num ⟨num n ++ rest, b⟩ = (n, ⟨rest, b⟩) := by
 unfold R.num
 have := rdN_num (n + 1) n 0 0 rest (by omega) (by omega) (by simpa using h) (by simp)
 simp only [Nat.zero_add, Nat.mul_zero, Nat.pow_zero, Nat.mul_one] at this
 simp only [this]
theorem take_back (s rest : By) : R.take ⟨s ++ rest, false⟩ s.length = (s, ⟨rest, false⟩) := by
 unfold R.take
 rw [if_neg (by simp)]
 simp
end Go.Proofs.YtleljbiejeofgaaGreatDoor.Co
end
section
namespace Go.Proofs.YtleljbiejeofgaaGreatDoor.Sm
open Go
def cstep (r : BitVec 32) : BitVec 32 := if eq32 (r &&& 1#32) 1#32 then (r >>> 1) ^^^ 0x82f63b78#32 else r >>> 1
def csteps : Nat → BitVec 32 → BitVec 32
 | 0, r => r
 | n + 1, r => cstep (csteps n r)
def cbyte (r : BitVec 32) (b : UInt8) : BitVec 32 := csteps 8 (r ^^^ bw b)
def creg (l : List UInt8) : BitVec 32 := l.foldl cbyte 0xffffffff#32
def crc (l : List UInt8) : BitVec 32 := ~~~ (creg l)
theorem cstep_odd (a : BitVec 32) (h : eq32 (a &&& 1#32) 1#32 = true) : (a >>> 1) ^^^ 0x82f63b78#32 = cstep a := by rw [cstep, if_pos h]
theorem cstep_even (a : BitVec 32) (h : eq32 (a &&& 1#32) 1#32 = false) : a >>> 1 = cstep a := by rw [cstep, h]; rfl
theorem creg_snoc (l : List UInt8) (b : UInt8) : creg (l ++ [b]) = cbyte (creg l) b := by simp [creg]
theorem take_snoc (s : ByteArray) (k : Nat) (h : k < s.size) : s.data.toList.take (k + 1) = s.data.toList.take k ++ [s[k]] := by
 rw [List.take_succ_eq_append_getElem (by simpa using h)]; rfl
theorem take_all (s : ByteArray) (k : Nat) (h : ¬ k < s.size) : s.data.toList.take k = s.data.toList := List.take_of_length_le (by simp; omega)
def word4 (a b c d : UInt8) : BitVec 32 := (bw a <<< 24) ||| (bw b <<< 16) ||| (bw c <<< 8) ||| bw d
def wordAt (l : List UInt8) (i : Nat) : BitVec 32 := word4 (l.getD (4 * i) 0) (l.getD (4 * i + 1) 0) (l.getD (4 * i + 2) 0) (l.getD (4 * i + 3) 0)
def rot (x : BitVec 32) (n : Nat) : BitVec 32 := (x <<< (32 - n)) ||| (x >>> n)
def sig0 (x : BitVec 32) : BitVec 32 := rot x 7 ^^^ rot x 18 ^^^ x >>> 3
def sig1 (x : BitVec 32) : BitVec 32 := rot x 17 ^^^ rot x 19 ^^^ x >>> 10
def firstW (l : List UInt8) (k : Nat) : List (BitVec 32) := (List.range k).map (wordAt l)
def nextW (ws : List (BitVec 32)) (i : Nat) : BitVec 32 := ws.getD (i - 16) 0 + sig0 (ws.getD (i - 15) 0) + ws.getD (i - 7) 0 + sig1 (ws.getD (i - 2) 0)
def schedN (l : List UInt8) : Nat → List (BitVec 32)
 | 0 => firstW l 16
 | n + 1 => schedN l n ++ [nextW (schedN l n) (16 + n)]
def sched (l : List UInt8) : List (BitVec 32) := schedN l 48
theorem schedN_length (l : List UInt8) (n : Nat) : (schedN l n).length = 16 + n := by
 induction n with
 | zero => simp [schedN, firstW]
 | succ n ih => simp [schedN, ih]; omega
theorem firstW_length (l : List UInt8) (k : Nat) : (firstW l k).length = k := by simp [firstW]
theorem firstW_snoc (l : List UInt8) (k : Nat) : firstW l (k + 1) = firstW l k ++ [wordAt l k] := by simp [firstW, List.range_succ]
theorem sched_length (l : List UInt8) : (sched l).length = 64 := by rw [sched, schedN_length]
theorem getD_app {α : Type} (l : List α) (x d : α) (j : Nat) : (l ++ [x]).getD j d = if j = l.length then x else l.getD j d := by
 simp only [List.getD_eq_getElem?_getD, List.getElem?_append]
 split
 ·rename_i h; rw [if_neg (by omega)]
 ·rename_i h
  by_cases hj : j = l.length
  ·subst hj; simp
  ·rw [if_neg hj, List.getElem?_eq_none (by simp; omega), List.getElem?_eq_none (by omega)]
theorem extract_getD (s : ByteArray) (a b i : Nat) (h : a + i < b) (hb : b ≤ s.size) (h' : i < (s.extract a b).size) : (s.extract a b)[i] = s.data.toList.getD (a + i) 0 := by
 have hs : s.data.size = s.size := rfl
 rw [ByteArray.getElem_extract, List.getD_eq_getElem?_getD, List.getElem?_eq_getElem (by simp; omega)]
 rfl
def tabK : List (BitVec 32) := [1116352408, 1899447441, 3049323471, 3921009573, 961987163, 1508970993, 2453635748, 2870763221, 3624381080, 310598401, 607225278, 1426881987, 1925078388, 2162078206, 2614888103, 3248222580, 3835390401, 4022224774, 264347078, 604807628, 770255983, 1249150122, 1555081692, 1996064986, 2554220882, 2821834349, 2952996808, 3210313671, 3336571891, 3584528711, 113926993, 338241895, 666307205, 773529912, 1294757372, 1396182291, 1695183700, 1986661051, 2177026350, 2456956037, 2730485921, 2820302411, 3259730800, 3345764771, 3516065817, 3600352804, 4094571909, 275423344, 430227734, 506948616, 659060556, 883997877, 958139571, 1322822218, 1537002063, 1747873779, 1955562222, 2024104815, 2227730452, 2361852424, 2428436474, 2756734187, 3204031479, 3329325298]
structure S8 where
 a : BitVec 32
 b : BitVec 32
 c : BitVec 32
 d : BitVec 32
 e : BitVec 32
 f : BitVec 32
 g : BitVec 32
 h : BitVec 32
def S8.list (s : S8) : List (BitVec 32) := [s.a, s.b, s.c, s.d, s.e, s.f, s.g, s.h]
def S8.cells (s : S8) : List Value := [w32 s.a, w32 s.b, w32 s.c, w32 s.d, w32 s.e, w32 s.f, w32 s.g, w32 s.h]
theorem cells_length (s : S8) : s.cells.length = 8 := rfl
theorem cells_size (s : S8) : s.cells.toArray.size = 8 := rfl
theorem cells_fit (s t : S8) : s.cells.length = t.cells.toArray.size := (cells_length s).trans (cells_size t).symm
def S8.add (s t : S8) : S8 := ⟨s.a + t.a, s.b + t.b, s.c + t.c, s.d + t.d, s.e + t.e, s.f + t.f, s.g + t.g, s.h + t.h⟩
def one8 (k x : BitVec 32) (s : S8) : BitVec 32 := s.h + (rot s.e 6 ^^^ rot s.e 11 ^^^ rot s.e 25) + ((s.e &&& s.f) ^^^ (~~~ s.e &&& s.g)) + k + x
def two8 (s : S8) : BitVec 32 := (rot s.a 2 ^^^ rot s.a 13 ^^^ rot s.a 22) + ((s.a &&& s.b) ^^^ (s.a &&& s.c) ^^^ (s.b &&& s.c))
def round8 (k x : BitVec 32) (s : S8) : S8 := ⟨one8 k x s + two8 s, s.a, s.b, s.c, s.d + one8 k x s, s.e, s.f, s.g⟩
def rounds8 (l : List UInt8) (s : S8) : Nat → S8
 | 0 => s
 | n + 1 => round8 (tabK.getD n 0) ((sched l).getD n 0) (rounds8 l s n)
def mix8 (s : S8) (l : List UInt8) : S8 := s.add (rounds8 l s 64)
def init8 : S8 := ⟨1779033703, 3144134277, 1013904242, 2773480762, 1359893119, 2600822924, 528734635, 1541459225⟩
def zerosN (m : Nat) : Nat := (120 - m % 64) % 64
def be8 (x : BitVec 64) : List UInt8 := [qb (x >>> 56), qb (x >>> 48), qb (x >>> 40), qb (x >>> 32), qb (x >>> 24), qb (x >>> 16), qb (x >>> 8), qb (x >>> 0)]
def ending (l : List UInt8) (n : Int) : List UInt8 := l ++ [128] ++ List.replicate (zerosN (l.length + 1)) 0 ++ be8 (BitVec.ofInt 64 n * 8#64)
theorem zerosN_le (m : Nat) : zerosN m < 64 := Nat.mod_lt _ (by omega)
theorem zerosN_at (m : Nat) : (m + zerosN m) % 64 = 56 := by unfold zerosN; omega
theorem zerosN_before (m z : Nat) (h : z < zerosN m) : (m + z) % 64 ≠ 56 := by unfold zerosN at h; omega
def endZ (l : List UInt8) (z : Nat) : List UInt8 := l ++ [128] ++ List.replicate z 0
theorem endZ_length (l : List UInt8) (z : Nat) : (endZ l z).length = l.length + 1 + z := by simp [endZ]; omega
theorem endZ_snoc (l : List UInt8) (z : Nat) : endZ l (z + 1) = endZ l z ++ [0] := by simp [endZ, List.replicate_succ']
def beN (x : BitVec 64) (j : Nat) : List UInt8 := (be8 x).take j
theorem beN_snoc (x : BitVec 64) (j : Nat) (h : j < 8) : beN x (j + 1) = beN x j ++ [qb (x >>> (56 - 8 * j))] := by
 rcases j with _ | _ | _ | _ | _ | _ | _ | _ | j
 all_goals first | rfl | omega
theorem ending_length (l : List UInt8) (n : Int) : (ending l n).length = l.length + 1 + zerosN (l.length + 1) + 8 := by simp [ending, be8]; omega
def absorb (l : List UInt8) (st : S8) : Nat → S8
 | 0 => st
 | n + 1 => mix8 (absorb l st n) ((l.drop (64 * n)).take 64)
def be4 (x : BitVec 32) : List UInt8 := [wb (x >>> 24), wb (x >>> 16), wb (x >>> 8), wb x]
def shaState (l : List UInt8) : S8 :=
 let st := absorb l init8 (l.length / 64)
 let tail := ending (l.drop (64 * (l.length / 64))) l.length
 absorb tail st (tail.length / 64)
def sha (l : List UInt8) : List UInt8 := (shaState l).list.flatMap be4
theorem turn_low : ∀ n : Fin 32, 0 < n.val → (BitVec.ofInt 64 (-(n.val : Int)) &&& 31#64).toNat = 32 - n.val ∧ (32#64 - (BitVec.ofInt 64 (-(n.val : Int)) &&& 31#64)).toNat = n.val := by decide +kernel
theorem rot_eq (x : BitVec 32) (n : Int) (h0 : 0 < n) (h : n < 32) : (x <<< (BitVec.ofInt 64 (-n) &&& 31#64).toNat ||| x >>> (32#64 - (BitVec.ofInt 64 (-n) &&& 31#64)).toNat) = rot x n.toNat := by
 obtain ⟨k, rfl⟩ := Int.eq_ofNat_of_zero_le (Int.le_of_lt h0)
 have := turn_low ⟨k, by omega⟩ (by simp only; omega)
 simp only at this
 rw [this.1, this.2, rot, Int.toNat_natCast]
theorem ending_blocks (l : List UInt8) (n : Int) : (ending l n).length % 64 = 0 := by
 rw [ending_length]
 have := zerosN_at (l.length + 1)
 omega
def nat8 (l : List UInt8) : Nat → Nat
 | 0 => 0
 | k + 1 => 256 * nat8 l k + (l.getD k 0).toNat
def num (l : List UInt8) : Nat := nat8 l 8 / 8
theorem nat8_lt (l : List UInt8) (k : Nat) : nat8 l k < 256 ^ k := by
 induction k with
 | zero => simp [nat8]
 | succ k ih =>
  have := (l.getD k 0).toNat_lt
  rw [nat8, Nat.pow_succ]
  omega
theorem num_step (l : List UInt8) (k : Nat) (h : k < 8) : (BitVec.ofNat 64 (nat8 l k) <<< 8 ||| bq (l.getD k 0)) = BitVec.ofNat 64 (nat8 l (k + 1)) := by
 have hlt := nat8_lt l k
 have hp : 256 ^ k ≤ 256 ^ 7 := Nat.pow_le_pow_right (by omega) (by omega)
 have hb := (l.getD k 0).toNat_lt
 rw [nat8]
 apply BitVec.eq_of_toNat_eq
 rw [BitVec.toNat_or, BitVec.toNat_shiftLeft, BitVec.toNat_ofNat, BitVec.toNat_ofNat, Nat.shiftLeft_eq]
 have hq : (bq (l.getD k 0)).toNat = (l.getD k 0).toNat := by
  unfold bq
  rw [BitVec.toNat_setWidth, UInt8.toNat_toBitVec, Nat.mod_eq_of_lt (by omega)]
 rw [hq]
 generalize (l.getD k 0).toNat = b at hb ⊢
 generalize nat8 l k = n at hlt ⊢
 have h1 : n % 2 ^ 64 = n := Nat.mod_eq_of_lt (by omega)
 rw [h1]
 have h2 : n * 2 ^ 8 % 2 ^ 64 = n * 2 ^ 8 := Nat.mod_eq_of_lt (by omega)
 rw [h2, nat_join 8 (n * 2 ^ 8) b (by omega) (by omega)]
 omega
theorem num_skip (l : List UInt8) (k : Nat) (h : k < 8) (hk : l.length ≤ k) : BitVec.ofNat 64 (nat8 l k) <<< 8 = BitVec.ofNat 64 (nat8 l (k + 1)) := by
 have h1 := num_step l k h
 have h0 : l.getD k 0 = 0 := by simp [List.getD_eq_getElem?_getD, List.getElem?_eq_none hk]
 rw [h0] at h1
 rw [← h1]
 simp [bq]
theorem num_end (l : List UInt8) : i64of ((BitVec.ofNat 64 (nat8 l 8)) >>> 3) = (num l : Int) := by
 unfold i64of
 have hlt := nat8_lt l 8
 have h1 : ((BitVec.ofNat 64 (nat8 l 8)) >>> 3).toNat = num l := by
  rw [BitVec.toNat_ushiftRight, BitVec.toNat_ofNat, Nat.mod_eq_of_lt (by omega), Nat.shiftRight_eq_div_pow]; rfl
 rw [BitVec.toInt_eq_toNat_of_lt (by rw [h1]; unfold num; omega), h1]
theorem nonempty_of {y : ByteArray} (h : 0 < y.size) : y.toList.isEmpty = false := by
 rw [ByteArray.toList_eq]
 have : y.data.toList.length = y.size := by simp
 cases hh : y.data.toList with
 | nil => rw [hh] at this; simp at this; omega
 | cons a l => rfl
theorem empty_of {y : ByteArray} (h : ¬ 0 < y.size) : y.toList.isEmpty = true := by
 rw [ByteArray.toList_eq]
 have : y.data.toList.length = y.size := by simp
 cases hh : y.data.toList with
 | nil => rfl
 | cons a l => rw [hh] at this; simp at this; omega
theorem digest_snoc (st : S8) (j : Nat) (h : j < 8) : (st.list.take (j + 1)).flatMap be4 = (st.list.take j).flatMap be4 ++ be4 (st.list.getD j 0) := by
 rcases j with _ | _ | _ | _ | _ | _ | _ | _ | j
 all_goals first | rfl | omega
theorem size64 (r : ByteArray) (h : 64 ≤ r.size) : (r.extract 0 64).size = 64 := by rw [ByteArray.size_extract]; omega
theorem take64 (r : ByteArray) : (r.extract 0 64).data.toList = r.data.toList.take 64 := by
 simp [ByteArray.data_extract]
theorem drop64 (r : ByteArray) (b : Nat) (h : r.size ≤ b) : (r.extract 64 b).data.toList = r.data.toList.drop 64 := by
 have : r.data.toList.length = r.size := by simp
 rw [ByteArray.data_extract, Array.toList_extract, List.extract_eq_take_drop, List.take_of_length_le (by simp; omega)]
end Go.Proofs.YtleljbiejeofgaaGreatDoor.Sm
end
