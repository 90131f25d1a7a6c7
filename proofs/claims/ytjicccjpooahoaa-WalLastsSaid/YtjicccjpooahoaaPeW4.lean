/- Several texts in one. -/
import Derived.Test.YtjicccjpooahoaaPeW3
set_option linter.unusedSectionVars false
set_option linter.unusedVariables false
set_option linter.unusedSimpArgs false
namespace Go.Proofs.Ytjicccjpooahoaa.Pe
open Go Go.RowKit
variable [Tab]
structure AO where
 dst : Option Nat
 op : Op
 gd : Option (Option Nat × Bool)
inductive CC where
 | skip | rfunc (N : Nat) (g : Operand) (ps : Array Tmp) (asn bdy : Code) | reg (l : List AO) | seq (a b : CC) | cond (c : Operand) (t f : CC) | block (id : Nat) (b : CC) | loop (b : CC) | exit (id : Nat) | ret | bad
inductive AX where
 | norm | exit (id : Nat) | ret
def eraseO (ops : Array Oper) (o : Oper) : AO := ⟨o.dst, o.op, match o.guard with
 | none => none
 | some (j, want) => some ((ops[j]?).bind (·.dst), want)⟩
def eraseG (k : Option Nat) : Code → CC
 | .skip => .skip
 | .label _ => .skip
 | .region _ ops _ => .reg (ops.toList.map (eraseO ops))
 | .seq a b => .seq (eraseG k a) (eraseG k b)
 | .cond c a b => .cond c (eraseG k a) (eraseG k b)
 | .block id b => .block id (eraseG k b)
 | .loop b => .loop (eraseG k b)
 | .exit id => .exit id
 | .ret => .ret
 | .rangeFunc g ps asn bdy => match k with
  | some N => .rfunc N g ps asn bdy
  | none => .bad
 | _ => .bad
abbrev eraseC : Code → CC := eraseG none
def noRF : Code → Bool
 | .seq a b => noRF a && noRF b
 | .cond _ a b => noRF a && noRF b
 | .block _ b => noRF b
 | .loop b => noRF b
 | .rangeFunc _ _ _ _ => false
 | _ => true
def envL (N : Nat) (e : Env) : List AV := (List.range N).map e
def aGd (gd : Option (Option Nat × Bool)) (e : Env) : Option Bool :=
 match gd with
 | none => some true
 | some (none, _) => some false
 | some (some d, want) => match e d with
  | .bo b => some (b == want)
  | .tup [] => some false
  | _ => none
def ARg (P : Program) (pf rf : List FuncId) : List AO → Env → Store → (Env → Store → Prop) → Prop
 | [], e, S, K => K e S
 | o :: rest, e, S, K => bindO (aGd o.gd e) fun b => iteP b (AOp P pf rf o.op e S fun v S' => ARg P pf rf rest (put e o.dst v) S' K) (ARg P pf rf rest (put e o.dst (.tup [])) S K)
def Weak (N0 : Nat) (e : Env) (S : Store) (e' : Env) (S' : Store) : Prop :=
 ∀ (N : Nat) (w0 : World) (g0 : Gh) (a : Act) (w : World), g0.nid = N0 → Conc N w0 g0 e S a w → Conc N w0 g0 e' S' a w
def thenQ (Q : AX → Env → Store → Prop) (next : Env → Store → Prop) : AX → Env → Store → Prop
 | .norm => next
 | x => Q x
def roundP (N0 : Nat) (I : Nat → Env → Store → Prop) (n : Nat) (e : Env) (S : Store) : Prop := ∃ n' e' S', n' < n ∧ Weak N0 e S e' S' ∧ I n' e' S'
def ALoop (N0 : Nat) (B : (AX → Env → Store → Prop) → Env → Store → Prop) (Q : AX → Env → Store → Prop) (e : Env) (S : Store) : Prop :=
 ∃ I : Nat → Env → Store → Prop, (∃ n e' S', Weak N0 e S e' S' ∧ I n e' S') ∧ ∀ n e S, I n e S → B (thenQ Q (roundP N0 I n)) e S
def blockQ (id : Nat) (Q : AX → Env → Store → Prop) : AX → Env → Store → Prop
 | .exit i => if i = id then Q .norm else Q (.exit i)
 | x => Q x
def ARF (P : Program) (N : Nat) (g : Operand) (ps : Array Tmp) (asn bdy : Code) (K : Env → Store → Prop) (e : Env) (S : Store) : Prop :=
 match ev e g with
 | .fn (.func f) fa ca => ∃ v S' U, S'.length = S.length ∧ (∀ b D fn, AC P f (fa ++ [.fn (.yield b) [] []] ++ ca) (S ++ [.loop b D fn (envL N e) ps asn bdy .ready]) v (S' ++ .loop b D fn (envL N e) ps asn bdy .ready :: U)) ∧ K e (S' ++ .dead :: U)
 | _ => False
def AW (P : Program) (pf rf : List FuncId) (N0 : Nat) : CC → (AX → Env → Store → Prop) → Env → Store → Prop
 | .skip, Q, e, S => Q .norm e S
 | .reg l, Q, e, S => ARg P pf rf l e S (Q .norm)
 | .seq a b, Q, e, S => AW P pf rf N0 a (thenQ Q (AW P pf rf N0 b Q)) e S
 | .cond c t f, Q, e, S => match ev e c with
  | .bo b => iteP b (AW P pf rf N0 t Q e S) (AW P pf rf N0 f Q e S)
  | _ => False
 | .block id b, Q, e, S => AW P pf rf N0 b (blockQ id Q) e S
 | .loop b, Q, e, S => ALoop N0 (AW P pf rf N0 b) Q e S
 | .exit id, Q, e, S => Q (.exit id) e S
 | .ret, Q, e, S => Q .ret e S
 | .rfunc N g ps asn bdy, Q, e, S => ∃ e1 S1, Weak N0 e S e1 S1 ∧ ARF P N g ps asn bdy (Q .norm) e1 S1
 | .bad, _, _, _ => False
def codeOk (P : Program) (pf rf : List FuncId) (N : Nat) : Code → Bool
 | .region _ ops draw => dstsOk N ops && (!draw || lexOk (clsOf P pf rf) ops)
 | .seq a b => codeOk P pf rf N a && codeOk P pf rf N b
 | .cond _ a b => codeOk P pf rf N a && codeOk P pf rf N b
 | .block _ b => codeOk P pf rf N b
 | .loop b => codeOk P pf rf N b
 | .rangeFunc _ _ asn bdy => noRF asn && noRF bdy
 | _ => true
def toQ (N : Nat) (w0 : World) (g0 : Gh) (Q : AX → Env → Store → Prop) : Exit → Act → World → Prop
 | .normal, a, w => ∃ e S, Conc N w0 g0 e S a w ∧ Q .norm e S
 | .exit id, a, w => ∃ e S, Conc N w0 g0 e S a w ∧ Q (.exit id) e S
 | .ret, a, w => ∃ e S, Conc N w0 g0 e S a w ∧ Q .ret e S
 | _, _, _ => False
section
variable {P : Program} {N N0 : Nat} {w0 : World} {g0 : Gh} {pf rf : List FuncId}
theorem wpL_of_ARg {ops : Array Oper} {Q : Env → Store → Prop} : ∀ (l : List Oper) (e : Env) (S : Store), ARg P pf rf (l.map (eraseO ops)) e S Q → wpL P (clsOf P pf rf) ops Q l e S
 | [], e, S, h => h
 | o :: rest, e, S, h => by
  simp only [List.map_cons, ARg] at h
  have hg : aGd (eraseO ops o).gd e = aWant ops o e := by
   unfold eraseO aWant
   cases hgd : o.guard with
   | none => rfl
   | some p =>
    obtain ⟨j, want⟩ := p
    simp only [aGd, aYield]
    cases hd : (ops[j]?).bind (·.dst) with
    | none => cases want <;> rfl
    | some d =>
     simp only
     cases he : e d with
     | bo b => cases b <;> cases want <;> rfl
     | tup vs => cases vs <;> cases want <;> rfl
     | _ => rfl
  rw [hg] at h
  unfold wpL
  obtain ⟨b, hb, h⟩ := bindO_spec h
  ·simp only [hb]
   cases b with
   | true =>
    obtain ⟨v, S', h1, h2⟩ := AOp_ok (o := o) (h.1 rfl)
    exact ⟨v, S', h1, wpL_of_ARg rest _ _ h2⟩
   | false => exact wpL_of_ARg rest _ _ (h.2 rfl)
theorem Le.below {w w' : World} (g : Gh) (h : Below w.heap.size w w') : Le w g w' g :=
 ⟨fun b o v _ hv => by rw [World.cell?_of_block (w := w) (w' := w') (h.block b (World.block_lt_of_cell? w _ hv))]; exact hv, fun _ _ _ h _ => h, Nat.le_refl _, fun _ _ => ⟨rfl, .inl ⟨rfl, rfl, rfl⟩⟩, fun b me c h h' => ⟨h, by rw [Below.block ‹_› b (Array.getElem?_eq_some_iff.1 h').1]; exact h'⟩⟩
theorem WF.below {w w' : World} {g : Gh} {S : Store} (hw : WF w g S) (h : Below w.heap.size w w') : WF w' g S := by
 refine ⟨hw.nid, fun l o hl => ?_, hw.disj, fun l b hl hb => ?_, hw.tab.le (Le.below g h)⟩
 ·have hlt : l < g.nid := by rw [hw.nid]; exact (List.getElem?_eq_some_iff.1 hl).1
  exact (hw.obj l o hl).keep (Le.below g h) rfl rfl rfl rfl rfl (fun _ _ => rfl) (fun b hb => h.block b (hw.lt l b hlt hb))
 ·have := hw.lt l b hl hb
  have := h.size
  omega
theorem Evo.below {w w' : World} (g : Gh) (h : Below w.heap.size w w') : Evo w g w' g :=
 ⟨Le.below g h, h.os, h.tape, h.output, h.size, fun b hb _ => h.block b hb, fun _ _ hl hb _ => ⟨hl, hb⟩, fun _ _ _ => rfl⟩
theorem wpIn_loop_ghost {F : Fence} {n : Nat} {P : Program} {Q : Exit → Act → World → Prop} {a : Act} {w : World} {c : Code} (I : Nat → Act → World → Prop) (n₀ : Nat) (h₀ : I n₀ a w)
  (round : ∀ n' a w, I n' a w → c.wpIn F n P (Exit.then (fun a' w' => ∃ n'', n'' < n' ∧ I n'' a' w') Q) a w) : (Code.loop c).wpIn F n P Q a w := by
 refine wpIn_loop (fun a w => ∃ n, I n a w) (fun a w => leastOf (fun n => I n a w)) ⟨n₀, h₀⟩ ?_
 intro a w hI
 refine Go.wpIn_mono (round _ a w (leastOf_spec hI).1) ?_
 intro e a' w' hq
 cases e with
 | normal =>
  obtain ⟨n', hlt, hI'⟩ := hq
  exact show (∃ n, I n a' w') ∧ leastOf (fun n => I n a' w') < leastOf (fun n => I n a w) from ⟨⟨n', hI'⟩, Nat.lt_of_le_of_lt ((leastOf_spec ⟨n', hI'⟩).2 n' hI') hlt⟩
 | exit id => exact hq
 | goto l => exact hq
 | ret => exact hq
 | panic ch => exact hq
 | outgrown => exact hq
theorem Conc.entry {e : Env} {S : Store} {a : Act} {w : World} (h : Conc N w0 g0 e S a w) : ∃ g, WF w g S ∧ ERel w g e a ∧ EvD w0 g0 w g a.defers := h.2.2
theorem ERel.le {w w' : World} {g g' : Gh} {e : Env} {a : Act} (h : ERel w g e a) (hl : Le w g w' g') : ERel w' g' e a := fun t => (h t).le hl
theorem envL_rel {w : World} {g : Gh} {e : Env} {a : Act} (h : ERel w g e a) : ∀ (j : Nat) u x, (envL a.tmps.size e)[j]? = some u → a.tmps[j]? = some x → Rel w g u x := by
 intro j u x hu hx
 unfold envL at hu
 rw [List.getElem?_map] at hu
 obtain ⟨y, hy, rfl⟩ := Option.map_eq_some_iff.1 hu
 have hj : y = j := by
  rw [List.getElem?_range (by have := (List.getElem?_eq_some_iff.1 hy).1; simpa using this)] at hy
  simpa using hy.symm
 subst hj
 have := h y
 rw [Array.getD_eq_getD_getElem?, hx] at this
 exact this
theorem ARF_ok {g : Operand} {ps : Array Tmp} {asn bdy : Code} {Q : AX → Env → Store → Prop} {e : Env} {S : Store} {a : Act} {w : World} (hc : Conc N w0 g0 e S a w) (h : ARF P N g ps asn bdy (Q .norm) e S) :
  (Code.rangeFunc g ps asn bdy).wpIn (wR none) 0 P (toQ N w0 g0 Q) a w := by
 obtain ⟨hsz, _, gh, hw, he, hD⟩ := hc
 unfold ARF at h
 split at h
 ·rename_i f fa ca hf
  obtain ⟨v, S', U, hlen, hac, hK⟩ := h
  refine wpIn_rangeFunc fun fn _ => ?_
  have hgv := ev_ok he g
  rw [hf] at hgv
  generalize hcf : a.eval g = cf at hgv
  cases hgv with
  | fn _ _ _ _ fav cav hfs hcs hrf hrc =>
   have hB : Below w.heap.size w (w.alloc (.deferred (some []))) := (Below.refl _ w).alloc (Nat.le_refl _) _
   have hw1 := hw.below hB
   have hE1 := Evo.below gh hB
   have hsz1 : (w.alloc (.deferred (some []))).heap.size = w.heap.size + 1 := by simp
   let r : Loop := { state := .ready, pending := none, fn, tmps := a.tmps, params := ps, assign := asn, body := bdy, defers := w.heap.size }
   have hpush := hw1.alloc_push (.loop r) false 0 0 0 (o := .loop (w.heap.size + 1) w.heap.size fn (envL N e) ps asn bdy .ready) (by
    refine ⟨by simp [Gh.push], by simp [Gh.push], by simp [Gh.push], by simp [Gh.push], a.tmps, ?_, by simp [envL, hsz], ?_⟩
    ·simp only [Gh.push, if_true]
     exact World.alloc_heap_new _ _
    ·have := envL_rel (he.le (hE1.toLe.trans (Le.push_new _ gh (.loop r) false 0 0 0)))
     rw [hsz] at this
     exact this)
   obtain ⟨hw2, hE2⟩ := hpush
   have hE := hE1.trans hE2
   have hfb : (Instr.enterLoop fn a.tmps ps asn bdy (wR none).round).run P w = .ok (w.heap.size + 1, [{ target := .collected w.heap.size, args := #[] }]) ((w.alloc (.deferred (some []))).alloc (.loop r)) := run_enterLoop_outer fn a.tmps ps asn bdy
   have hres : ∀ w', (resolve a.eval (rangeCall g (w.heap.size + 1)) 0).run P w' = .ok { target := .fn (.func f) cav, args := fav ++ #[.func (.yield (w.heap.size + 1)) #[] #[]] } w' := fun w' => by
    simp only [resolve, rangeCall, hcf, Deferred.ofValue, Sem.run_bind, Sem.run_pure, Result.andThen_ok, List.map_toArray, List.map_cons, List.map_nil]
    rfl
   have hac' := hac (w.heap.size + 1) w.heap.size fn
   refine ⟨w.heap.size + 1, _, _, _, _, f, fav ++ #[.func (.yield (w.heap.size + 1)) #[] #[]] ++ cav, (w.alloc (.deferred (some []))).alloc (.loop r), hfb, hres _, fun _ _ => trivial, ?_, fun q => by simp [wR, Fence.wide] at q, ?_⟩
   ·simp only [invoke]
    exact run_callFunc hac'.can _ _
   ·have hyl : ∀ w' g', Rel w' g' (.fn (.yield (w.heap.size + 1)) [] []) (.func (.yield (w.heap.size + 1)) #[] #[]) := fun w' g' => .fn g' (.yield (w.heap.size + 1)) [] [] #[] #[] rfl rfl (by simp) (by simp)
    have hargs : LRel ((w.alloc (.deferred (some []))).alloc (.loop r)) (gh.push (w.alloc (.deferred (some []))).heap.size false 0 0 0) (fa ++ [.fn (.yield (w.heap.size + 1)) [] []] ++ ca) (fav ++ #[.func (.yield (w.heap.size + 1)) #[] #[]] ++ cav) := by
     refine ⟨by simp [hfs, hcs]; omega, fun j u x hu hx => ?_⟩
     have hx' : (fav.toList ++ [.func (.yield (w.heap.size + 1)) #[] #[]] ++ cav.toList)[j]? = some x := by
      rw [← hx, ← Array.getElem?_toList]
      simp
     have l1 : fav.toList.length = fa.length := by simpa using hfs
     rw [List.append_assoc, List.getElem?_append] at hu hx'
     rw [l1] at hx'
     split at hu
     ·rename_i h1
      rw [if_pos h1] at hx'
      exact (hrf j u x hu (by simpa using hx')).le hE.toLe
     ·rename_i h1
      rw [if_neg h1] at hx'
      cases hj : j - fa.length with
      | zero =>
       rw [hj] at hu hx'
       simp at hu hx'
       subst hu; subst hx'
       exact hyl _ _
      | succ m =>
       rw [hj] at hu hx'
       simp at hu hx'
       exact (hrc m u x hu (by simpa using hx')).le hE.toLe
    refine (calls_wR (hac'.run _ _ _ hw2 hargs) none _).mono ?_
    rintro r' w3 ⟨cv, g3, rfl, hw3, _, hE3⟩
    have hl3 : (S' ++ .loop (w.heap.size + 1) w.heap.size fn (envL N e) ps asn bdy .ready :: U)[S.length]? = some (.loop (w.heap.size + 1) w.heap.size fn (envL N e) ps asn bdy .ready) := by
     rw [← hlen, List.getElem?_append_right (Nat.le_refl _), Nat.sub_self]; rfl
    obtain ⟨b1, b2, b3, b4, tm, b5, b6, b7⟩ := hw3.obj _ _ hl3
    rw [b4] at b5
    refine ⟨none, _, run_endLoop b5 (by simp), ?_⟩
    have hput := hw3.put (o := .dead) (ob := .loop { state := .exhausted, pending := none, fn, tmps := tm, params := ps, assign := asn, body := bdy, defers := w.heap.size }) (List.getElem?_eq_some_iff.1 hl3).1 b2 b3 trivial
    obtain ⟨hw4, hE4⟩ := hput
    rw [b4] at hw4 hE4
    have hset : (S' ++ SObj.loop (w.heap.size + 1) w.heap.size fn (envL N e) ps asn bdy .ready :: U).set S.length .dead = S' ++ .dead :: U := by
     rw [← hlen, List.set_append_right _ _ (Nat.le_refl _), Nat.sub_self]; rfl
    rw [hset] at hw4
    have hEall := (hE.trans hE3).trans hE4
    refine ⟨e, S' ++ .dead :: U, ⟨hsz, trivial, g3, hw4, he.le hEall.toLe, ?_⟩, hK⟩
    have hD' := hD.trans hEall
    refine ⟨hD'.toEvo, fun d hd => ?_, ?_⟩
    ·simp only [List.cons_append, List.nil_append, List.mem_cons] at hd
     rcases hd with rfl | hd
     ·have hno : ∀ l, l < (gh.push (w.alloc (.deferred (some []))).heap.size false 0 0 0).nid → ¬ (gh.push (w.alloc (.deferred (some []))).heap.size false 0 0 0).own l w.heap.size := by
       intro l hl ho
       simp only [Gh.push, hsz1] at hl ho
       split at ho
       ·omega
       ·have := hw.lt l _ (by omega) ho
        omega
      have hlt2 : w.heap.size < ((w.alloc (.deferred (some []))).alloc (.loop r)).heap.size := by simp; omega
      have hE34 := hE3.trans hE4
      refine ⟨w.heap.size, rfl, hD.size, Nat.lt_of_lt_of_le hlt2 hE34.size, ?_, fun l hl ho => ?_⟩
      ·exact (hE34.old _ hlt2 hno).trans ((hE2.old _ (by simp) (fun l hl ho => by have := hw.lt l _ hl ho; omega)).trans (World.alloc_heap_new _ _))
      ·have := hE34.own l _ hl ho hlt2
       exact hno l this.1 this.2
     ·exact hD'.defs d hd
    ·simp only [List.cons_append, List.nil_append, List.map_cons, List.nodup_cons]
     refine ⟨fun hm => ?_, hD.nodup⟩
     obtain ⟨d, hd, hdt⟩ := List.mem_map.1 hm
     obtain ⟨b, q1, _, q3, _⟩ := hD.defs d hd
     rw [hdt] at q1
     cases q1
     omega
 ·exact h.elim
theorem AW_okG (k : Option Nat) (hk : ∀ M, k = some M → M = N) (ro : Option Nat) (hm : P.follows .mixedOrders = true) (hN0 : g0.nid = N0) : ∀ (c : Code) (Q : AX → Env → Store → Prop) (e : Env) (S : Store) (a : Act) (w : World), codeOk P pf rf N c = true → (ro = none ∨ noRF c = true) → Conc N w0 g0 e S a w → AW P pf rf N0 (eraseG k c) Q e S → c.wpIn (wR ro) 0 P (toQ N w0 g0 Q) a w := by
 intro c
 induction c with
 | skip => intro Q e S a w _ _ hc h; exact wpIn_skip ⟨e, S, hc, h⟩
 | label l => intro Q e S a w _ _ hc h; exact wpIn_label ⟨e, S, hc, h⟩
 | ret => intro Q e S a w _ _ hc h; exact wpIn_ret ⟨e, S, hc, h⟩
 | exit id => intro Q e S a w _ _ hc h; exact wpIn_exit ⟨e, S, hc, h⟩
 | region id ops draw =>
  intro Q e S a w hok hrf hc h
  simp only [codeOk, Bool.and_eq_true] at hok
  simp only [eraseG, AW] at h
  have hL := wpL_of_ARg ops.toList e S h
  have hQ : ∀ e S a w, Conc N w0 g0 e S a w → Q .norm e S → toQ N w0 g0 Q .normal a w := fun e S a w hc hq => ⟨e, S, hc, hq⟩
  cases draw with
  | false => exact region_list hok.1 hQ hc hL ro
  | true => exact region_draws hm (by simpa using hok.2) hok.1 hQ hc hL ro
 | seq x y ihx ihy =>
  intro Q e S a w hok hrf hc h
  simp only [codeOk, Bool.and_eq_true] at hok
  simp only [eraseG, AW] at h
  refine wpIn_seq (Go.wpIn_mono (ihx _ e S a w hok.1 (hrf.imp id fun q => (by simpa [noRF] using q : _ ∧ _).1) hc h) ?_)
  intro ex a' w' hq
  cases ex with
  | normal => obtain ⟨e', S', hc', h'⟩ := hq; exact ihy Q e' S' a' w' hok.2 (hrf.imp id fun q => (by simpa [noRF] using q : _ ∧ _).2) hc' h'
  | exit id => exact hq
  | ret => exact hq
  | _ => exact hq.elim
 | cond c x y ihx ihy =>
  intro Q e S a w hok hrf hc h
  simp only [codeOk, Bool.and_eq_true] at hok
  simp only [eraseG, AW] at h
  split at h
  ·rename_i b hb
   have hcb : a.eval c = .bool b := by
    obtain ⟨_, _, g, _, h4, _⟩ := hc
    have := ev_ok h4 c
    rw [hb] at this
    cases hv : a.eval c <;> rw [hv] at this <;> cases this
    rfl
   refine wpIn_cond_split hcb (fun ht => ihx Q e S a w hok.1 (hrf.imp id fun q => (by simpa [noRF] using q : _ ∧ _).1) hc (h.1 ht)) (fun hf => ihy Q e S a w hok.2 (hrf.imp id fun q => (by simpa [noRF] using q : _ ∧ _).2) hc (h.2 hf))
  ·exact h.elim
 | block id c ih =>
  intro Q e S a w hok hrf hc h
  simp only [eraseG, AW] at h
  refine wpIn_block (Go.wpIn_mono (ih _ e S a w hok hrf hc h) ?_)
  intro ex a' w' hq
  cases ex with
  | normal => exact hq
  | exit i =>
   obtain ⟨e', S', hc', h'⟩ := hq
   simp only [blockQ] at h'
   simp only [Exit.inBlock]
   by_cases hi : i = id
   ·rw [if_pos hi] at h' ⊢; exact ⟨e', S', hc', h'⟩
   ·rw [if_neg hi] at h' ⊢; exact ⟨e', S', hc', h'⟩
  | ret => exact hq
  | _ => exact hq.elim
 | loop c ih =>
  intro Q e S a w hok hrf hc h
  simp only [eraseG, AW] at h
  obtain ⟨I, ⟨n, e', S', hwk, hI⟩, hround⟩ := h
  refine wpIn_loop_ghost (fun n a w => ∃ e S, Conc N w0 g0 e S a w ∧ I n e S) n ⟨e', S', hwk N w0 g0 a w hN0 hc, hI⟩ ?_
  rintro n a w ⟨e, S, hc, hI⟩
  refine Go.wpIn_mono (ih _ e S a w hok hrf hc (hround n e S hI)) ?_
  intro ex a' w' hq
  cases ex with
  | normal =>
   obtain ⟨e1, S1, hc1, n', e2, S2, hlt, hwk', hI'⟩ := hq
   exact ⟨n', hlt, e2, S2, hwk' N w0 g0 a' w' hN0 hc1, hI'⟩
  | exit i => exact hq
  | ret => exact hq
  | _ => exact hq.elim
 | rangeFunc g ps asn bdy _ _ =>
  intro Q e S a w hok hrf hc h
  rcases hrf with rfl | hrf
  ·simp only [eraseG] at h
   cases k with
   | none => exact h.elim
   | some M =>
    have hMN := hk M rfl
    subst hMN
    obtain ⟨e1, S1, hwk, h⟩ := h
    exact ARF_ok (hwk M w0 g0 a w hN0 hc) h
  ·cases hrf
 | _ => intro Q e S a w _ _ _ h; exact h.elim
theorem AW_ok {c : Code} (ro : Option Nat) (hrf : ro = none ∨ noRF c = true) (hm : P.follows .mixedOrders = true) (hN0 : g0.nid = N0) (Q : AX → Env → Store → Prop) (e : Env) (S : Store) (a : Act) (w : World) (hok : codeOk P pf rf N c = true) (hc : Conc N w0 g0 e S a w) (h : AW P pf rf N0 (eraseC c) Q e S) : c.wpIn (wR ro) 0 P (toQ N w0 g0 Q) a w :=
 AW_okG none (fun _ e => by cases e) ro hm hN0 c Q e S a w hok hrf hc h
end
def aRes (P : Program) (rs : List ResultVar) (e : Env) (S : Store) : Option (List AV) :=
 match rs with
 | [] => some []
 | .tmp t :: rest => (aRes P rest e S).map (e t :: ·)
 | .cell a t :: rest => match aLoad (szOf P t) S (e a), aRes P rest e S with
  | some v, some vs => some (v :: vs)
  | _, _ => none
def resV : List AV → AV
 | [v] => v
 | vs => .tup vs
def argEnv (args : List AV) : Env := fun t => args.getD t .junk
def Fin (P : Program) (rs : List ResultVar) (N0 : Nat) (v : AV) (S' : Store) (e : Env) (S : Store) : Prop :=
 ∃ e1 S1 vs κ, Weak N0 e S e1 S1 ∧ aRes P rs e1 S1 = some vs ∧ SubOk κ S1 S' ∧ κ.take N0 = List.range N0 ∧ v.ok κ.length = true ∧ (resV vs = v.ren (idx κ) ∨ (resV vs).wk = v.ren (idx κ))
def finQ (P : Program) (rs : List ResultVar) (N0 : Nat) (v : AV) (S' : Store) : AX → Env → Store → Prop
 | .norm => Fin P rs N0 v S'
 | .ret => Fin P rs N0 v S'
 | .exit _ => fun _ _ => False
section
variable {P : Program}
theorem aLoad_ok {w : World} {g : Gh} {S : Store} (hw : WF w g S) {ty : TypeId} {x v : AV} {cx : Value} (hx : Rel w g x cx) (h : aLoad (szOf P ty) S x = some v) : ∃ ad cv, cx = .pointer (some ad) ∧ (loadVar ty ad).run P w = .ok cv w ∧ Rel w g v cv := by
 unfold aLoad at h
 split at h
 ·rename_i sz ag l off hs
  split at h
  ·rename_i cs hS
   obtain ⟨arr, T, fr, h4, h5, hc, hl, _⟩ := obj_cells hw hS
   cases hx
   obtain ⟨cv, h1, h2⟩ := load_from (P := P) hc (b := g.pl l) (o := 0) (fun j hj => by rw [Nat.zero_add, cell_of_row w (g.pl l) j arr T fr h4]) hs h
   rw [Nat.zero_add] at h1
   exact ⟨_, cv, rfl, h1, h2⟩
  ·cases h
 ·rename_i sz ag v' off hs
  cases hx with
  | pst _ _ _ b o' cu hA h1 hr' =>
   have hc : CellsRel w g v'.cells ((List.range v'.cells.length).map cu).toArray := by
    refine ⟨by simp, fun u hu => ?_, fun j u z hu hz => ?_⟩
    ·simp only [List.mem_map, List.mem_range] at hu
     obtain ⟨j, hj, rfl⟩ := hu
     exact h1 j hj
    ·have hj := (List.getElem?_eq_some_iff.1 hu).1
     simp [List.getElem?_range hj] at hz
     rw [← hz]
     exact (hr' j u hu).ofNoid
   obtain ⟨cv, h2, h3⟩ := load_from (P := P) hc (b := b) (o := o') (fun j hj => by
    have hj' : j < v'.cells.length := by simpa using hj
    rw [(hA j hj').2]
    simp [List.getElem?_range hj']) hs h
   exact ⟨_, cv, rfl, h2, h3⟩
 ·rename_i sz ag l n off hs
  split at h
  ·rename_i cs el z hS
   split at h
   ·rename_i hc0
    exact row_load (P := P) hw hs hS hc0 h hx
   ·cases h
  ·cases h
 ·cases h
def resRun (tmps : Array Value) : ResultVar → Sem Value
 | .tmp t => pure (tmps.getD t undef)
 | .cell a t => do loadVar t (← asAddr (tmps.getD a undef))
theorem aRes_ok {w : World} {g : Gh} {S : Store} {e : Env} {a : Act} (hw : WF w g S) (he : ERel w g e a) : ∀ (rs : List ResultVar) (vs : List AV), aRes P rs e S = some vs →
  ∃ cvs : List Value, (rs.mapM (resRun a.tmps)).run P w = .ok cvs w ∧ cvs.length = vs.length ∧
   ∀ (j : Nat) u v, vs[j]? = some u → cvs[j]? = some v → Rel w g u v
 | [], vs, h => by
  cases h
  exact ⟨[], by simp, rfl, by simp⟩
 | .tmp t :: rest, vs, h => by
  simp only [aRes] at h
  obtain ⟨vs', h1, rfl⟩ := Option.map_eq_some_iff.1 h
  obtain ⟨cvs, h2, h3, h4⟩ := aRes_ok hw he rest vs' h1
  refine ⟨a.tmps.getD t undef :: cvs, by simp only [List.mapM_cons, Sem.run_bind, resRun, Sem.run_pure, Result.andThen_ok, h2], by simp [h3], fun j u v hu hv => ?_⟩
  cases j with
  | zero =>
   simp only [List.getElem?_cons_zero, Option.some.injEq] at hu hv
   rw [← hu, ← hv]; exact he t
  | succ j => exact h4 j u v (by simpa using hu) (by simpa using hv)
 | .cell x t :: rest, vs, h => by
  simp only [aRes] at h
  split at h
  ·rename_i v' vs' h0 h1
   cases h
   obtain ⟨cvs, h2, h3, h4⟩ := aRes_ok hw he rest vs' h1
   obtain ⟨ad, cv, h5, h6, h7⟩ := aLoad_ok hw (he x) h0
   refine ⟨cv :: cvs, by simp only [List.mapM_cons, Sem.run_bind, resRun, h5, asAddr, Sem.run_pure, Result.andThen_ok, h6, h2], by simp [h3], fun j u v hu hv => ?_⟩
   cases j with
   | zero => simp at hu hv; rw [← hu, ← hv]; exact h7
   | succ j => exact h4 j u v (by simpa using hu) (by simpa using hv)
  ·cases h
theorem results_ok {w : World} {g : Gh} {S : Store} {e : Env} {a : Act} (hw : WF w g S) (he : ERel w g e a) {fn : Func} {vs : List AV} (h : aRes P fn.results.toList e S = some vs) :
  ∃ cv, (results fn a.tmps).run P w = .ok cv w ∧ Rel w g (resV vs) cv := by
 obtain ⟨cvs, h1, h2, h3⟩ := aRes_ok hw he fn.results.toList vs h
 have hrun : (results fn a.tmps).run P w = .ok (if h : cvs.toArray.size = 1 then cvs.toArray[0] else .tuple cvs.toArray) w := by
  have hf : results fn a.tmps = (do let vs ← fn.results.mapM (resRun a.tmps); pure (if h : vs.size = 1 then vs[0] else .tuple vs)) := by
   unfold results
   congr 1
  rw [hf, Sem.run_bind, Array.mapM_eq_mapM_toList, Sem.run_map, h1]
  rfl
 refine ⟨_, hrun, ?_⟩
 match vs, cvs, h2, h3 with
 | [u], [v], _, h3 => exact h3 0 u v rfl rfl
 | [], [], _, _ => exact .tup g [] #[] rfl (by simp)
 | u :: u' :: us, v :: v' :: cs, h2, h3 =>
  have : ¬ (v :: v' :: cs).toArray.size = 1 := by simp
  rw [dif_neg this]
  exact .tup g _ _ (by simpa using h2) (fun j u v hu hv => h3 j u v hu (by simpa using hv))
theorem Evo.sub {w0 w : World} {g0 g : Gh} {κ : List Nat} (h : Evo w0 g0 w g) (hn : κ.Nodup) (hin : ∀ i, i < κ.length → idx κ i < g.nid) (hk : κ.take g0.nid = List.range g0.nid) : Evo w0 g0 w (g.sub κ) := by
 have hlen : g0.nid ≤ κ.length := by
  have := congrArg List.length hk
  rw [List.length_take, List.length_range] at this
  omega
 have hid : ∀ l, l < g0.nid → idx κ l = l := by
  intro l hl
  have : κ[l]? = some l := by
   rw [← List.getElem?_take_of_lt hl, hk, List.getElem?_range hl]
  unfold idx
  rw [List.getD_eq_getElem?_getD, this]
  rfl
 refine ⟨⟨h.cell, h.G, hlen, fun l hl => ?_, h.map⟩, h.os, h.tape, h.output, h.size, h.old, fun l b hl hb hlt => ?_, h.Gold⟩
 ·have := h.keep l hl
  show g.buf (idx κ l) = _ ∧ ((g.pl (idx κ l) = _ ∧ g.wm (idx κ l) = _ ∧ g.cap (idx κ l) = _) ∨ (_ ∧ _ < g.wm (idx κ l)))
  rw [hid l hl]
  exact this
 ·have hb' : g.own (idx κ l) b := hb
  have hl' : l < κ.length := hl
  obtain ⟨h1, h2⟩ := h.own (idx κ l) b (hin l hl') hb' hlt
  have h3 : idx κ (idx κ l) = idx κ l := hid _ h1
  have h4 := idx_inj hn (by omega) hl' h3
  rw [h4] at h1 h2
  exact ⟨h1, h2⟩
theorem SubOk.lt {w : World} {g : Gh} {S S' : Store} {κ : List Nat} (hs : SubOk κ S S') (h : WF w g S) : ∀ i, i < κ.length → idx κ i < g.nid := by
 intro i hi
 have hi' : i < S'.length := by rw [hs.len]; exact hi
 have h2 := (hs.ok i _ (List.getElem?_eq_getElem hi')).2
 rw [h.nid]
 exact (List.getElem?_eq_some_iff.1 h2).1
theorem Le.aside {w : World} {g : Gh} {b : Nat} {D : Option (List Deferred)} (h : w.heap[b]? = some (.deferred D)) (ob : Obj) : Le w g { w with heap := w.heap.setIfInBounds b ob } g := by
 have hne : ∀ {b' o : Nat} {v : Value}, w.cell? ⟨b', o, none⟩ = some v → b' ≠ b := fun hv e => by
  subst e
  simp [World.cell?, h] at hv
 refine ⟨fun b' o v hb hv => ?_, fun _ _ _ h _ => h, Nat.le_refl _, fun _ _ => ⟨rfl, .inl ⟨rfl, rfl, rfl⟩⟩, fun b' me c hg hm => ⟨hg, (heap_setObj (fun e => by subst e; rw [h] at hm; cases hm)).trans hm⟩⟩
 rw [World.cell?_of_block (w := w) (heap_setObj (hne hv))]
 exact hv
theorem WF.aside {w : World} {g : Gh} {S : Store} {b : Nat} {D : Option (List Deferred)} (hw : WF w g S) (h : w.heap[b]? = some (.deferred D)) (hno : ∀ l, l < g.nid → ¬ g.own l b) (ob : Obj) : WF { w with heap := w.heap.setIfInBounds b ob } g S := by
 have hle := Le.aside (g := g) h ob
 refine ⟨hw.nid, fun l o hl => ?_, hw.disj, fun l b' hl hb => ?_, hw.tab.le hle⟩
 ·have hlt : l < g.nid := by rw [hw.nid]; exact (List.getElem?_eq_some_iff.1 hl).1
  exact (hw.obj l o hl).keep hle rfl rfl rfl rfl rfl (fun _ _ => rfl) (fun b' hb => heap_setObj fun e => hno l hlt (by rw [← e]; exact hb))
 ·have := hw.lt l b' hl hb
  simpa using this
theorem leave_marks {fn : Func} {R : Ending → World → Prop} {w0 : World} {g0 g : Gh} {e : Env} {S : Store} {a : Act} : ∀ (D : List Deferred) (w : World), WF w g S → ERel w g e a → EvD w0 g0 w g D →
  (∀ w', WF w' g S → ERel w' g e a → Evo w0 g0 w' g → ∃ v, (results fn a.tmps).run P w' = .ok v w' ∧ R (.returned v) w') → LeavesInM (wR none) 0 P fn a.tmps R D .returning w
 | [], w, hw, he, hD, h => h w hw he hD.toEvo
 | d :: D, w, hw, he, hD, h => by
  obtain ⟨b, h1, h2, h3, h4, h5⟩ := hD.defs d (by simp)
  have hle := Le.aside (g := g) h4 (.deferred none)
  refine ⟨by simp, .inl ⟨b, w.putObj b (.deferred none), h1, run_takeDeferred h4, leave_marks D _ (hw.aside h4 h5 _) (fun t => (he t).le hle) ⟨⟨hD.toLe.trans hle, hD.os, hD.tape, hD.output, by simpa [World.putObj] using hD.size, fun b' hb hn => (heap_setObj (fun e => by omega)).trans (hD.old b' hb hn), hD.own, hD.Gold⟩, fun d' hd' => ?_, (by have := hD.nodup; simp only [List.map_cons, List.nodup_cons] at this; exact this.2)⟩ h⟩⟩
  obtain ⟨b', k1, k2, k3, k4, k5⟩ := hD.defs d' (by simp [hd'])
  have hne : b' ≠ b := fun e => by
   have := hD.nodup
   simp only [List.map_cons, List.nodup_cons] at this
   exact this.1 (List.mem_map.2 ⟨d', hd', by rw [k1, h1, e]⟩)
  exact ⟨b', k1, k2, by simpa [World.putObj] using k3, (heap_setObj hne).trans k4, k5⟩
theorem AC.of_wp {f : FuncId} {fn : Func} {c : Code} {args : List AV} {S S' : Store} {v : AV} (hf : P.funcs[f]? = some fn) (hb : fn.body = some c) (hname : fn.name ≠ "runtime.NumGoroutine") (hn : args.length ≤ fn.ntmps)
  (h : ∀ (w : World) (g : Gh) (a : Act), g.nid = S.length → Conc fn.ntmps w g (argEnv args) S a w → c.wpIn (wR none) 0 P (toQ fn.ntmps w g (finQ P fn.results.toList S.length v S')) a w) : AC P f args S v S' := by
 refine ⟨by simp [callable, hf, hb, hname], fun w g cargs hw hargs => ?_⟩
 refine (callsIn_wide (n := 0)).1 (callsIn_of_wp_marks hf hb trivial ?_)
 have hc : Conc fn.ntmps w g (argEnv args) S { tmps := cargs ++ Array.replicate (fn.ntmps - cargs.size) undef, defers := [] } w := by
  refine ⟨by simp [hargs.1]; omega, trivial, g, hw, fun t => ?_, .none (Evo.refl w g)⟩
  show Rel w g (args.getD t .junk) ((cargs ++ Array.replicate (fn.ntmps - cargs.size) undef).getD t undef)
  rw [List.getD_eq_getElem?_getD]
  cases ht : args[t]? with
  | none => exact .junk _ _
  | some u =>
   have hlt : t < cargs.size := by rw [hargs.1]; exact (List.getElem?_eq_some_iff.1 ht).1
   have h1 : cargs[t]? = some cargs[t] := Array.getElem?_eq_getElem hlt
   rw [Array.getD_eq_getD_getElem?, Array.getElem?_append_left hlt, h1]
   exact hargs.2 t u _ ht h1
 refine Go.wpIn_mono (h w g _ hw.nid hc) ?_
 have fin : ∀ a' w' e1 S1, Conc fn.ntmps w g e1 S1 a' w' → Fin P fn.results.toList S.length v S' e1 S1 → LeavesInM (wR none) 0 P fn a'.tmps (fun r w' => ∃ cv' g', r = .returned cv' ∧ WF w' g' S' ∧ Rel w' g' v cv' ∧ Evo w g w' g') a'.defers .returning w' := by
  rintro a' w' e0 S0 hc0 ⟨e1, S1, vs, κ, k0, k1, k2, k3, k4, k5⟩
  obtain ⟨_, _, g1, h3, h4, h5⟩ := k0 fn.ntmps w g a' w' hw.nid hc0
  refine leave_marks a'.defers w' h3 h4 h5 fun w' h3 h4 h5 => ?_
  obtain ⟨cv, r1, r2⟩ := results_ok h3 h4 k1
  refine ⟨cv, r1, cv, g1.sub κ, rfl, h3.sub k2, ?_, h5.sub k2.nodup (k2.lt h3) (by rw [hw.nid]; exact k3)⟩
  rcases k5 with k5 | k5
  ·rw [k5] at r2
   exact Rel.unren (un_sub w' g1 κ) r2 k4
  ·have r3 := r2.wk
   rw [k5] at r3
   exact Rel.unren (un_sub w' g1 κ) r3 k4
 intro ex a' w' hq
 cases ex with
 | normal => obtain ⟨e1, S1, hc1, h1⟩ := hq; exact fin a' w' e1 S1 hc1 h1
 | ret => obtain ⟨e1, S1, hc1, h1⟩ := hq; exact fin a' w' e1 S1 hc1 h1
 | exit id => obtain ⟨e1, S1, hc1, h1⟩ := hq; exact h1.elim
 | _ => exact hq.elim
theorem AC.enter {f : FuncId} {fn : Func} {c : Code} {args : List AV} {S S' : Store} {v : AV} (pf rf : List FuncId) (hf : P.funcs[f]? = some fn) (hb : fn.body = some c) (hname : fn.name ≠ "runtime.NumGoroutine") (hm : P.follows .mixedOrders = true)
  (hn : args.length ≤ fn.ntmps) (hok : codeOk P pf rf fn.ntmps c = true) (h : AW P pf rf S.length (eraseC c) (finQ P fn.results.toList S.length v S') (argEnv args) S) : AC P f args S v S' :=
 AC.of_wp hf hb hname hn fun w g a hg hc => AW_ok none (.inl rfl) hm hg _ (argEnv args) S a w hok hc h
theorem AC.enterN {f : FuncId} {fn : Func} {c : Code} {args : List AV} {S S' : Store} {v : AV} (N : Nat) (pf rf : List FuncId) (hf : P.funcs[f]? = some fn) (hb : fn.body = some c) (hname : fn.name ≠ "runtime.NumGoroutine") (hm : P.follows .mixedOrders = true)
  (hn : args.length ≤ fn.ntmps) (hok : codeOk P pf rf fn.ntmps c = true) (hN : fn.ntmps = N) (h : AW P pf rf S.length (eraseG (some N) c) (finQ P fn.results.toList S.length v S') (argEnv args) S) : AC P f args S v S' :=
 AC.of_wp hf hb hname hn fun w g a hg hc => AW_okG (some N) (fun _ e => by cases e; exact hN.symm) none hm hg c _ (argEnv args) S a w hok (.inl rfl) hc h
end
end Go.Proofs.Ytjicccjpooahoaa.Pe
namespace Go.Proofs.Ytjicccjpooahoaa.Pe
open Go Go.RowKit
variable [Tab]
def condP (v : AV) (X Y : Prop) : Prop :=
 match v with
 | .bo b => iteP b X Y
 | _ => False
@[congr] theorem condP_congr {v u : AV} (X Y : Prop) (h : v = u) : condP v X Y = condP u X Y := by rw [h]
theorem condP_bo (b : Bool) (X Y : Prop) : condP (.bo b) X Y = iteP b X Y := rfl
def fnP (P : Program) (pf rf : List FuncId) (t : Nat) (v : AV) (args : List AV) (S : Store) (K : AV → Store → Prop) : Prop :=
 match v with
 | .fn (.func f) fa ca => callP (ACallT P pf rf (.tmp t) f (fa ++ args ++ ca) S) K
 | .fn (.yield b) fa [] => callP (AYT P pf rf t b (fa ++ args) S) K
 | _ => False
@[congr] theorem fnP_congr {P : Program} {pf rf : List FuncId} {t : Nat} {v u : AV} (args : List AV) (S : Store) (K : AV → Store → Prop) (h : v = u) : fnP P pf rf t v args S K = fnP P pf rf t u args S K := by rw [h]
theorem fnP_fn (P : Program) (pf rf : List FuncId) (t : Nat) (f : FuncId) (fa ca args : List AV) (S : Store) (K : AV → Store → Prop) : fnP P pf rf t (.fn (.func f) fa ca) args S K =
  callP (if pf.contains (t + 1000000) then PureC P f (fa ++ args ++ ca) S else if rf.contains (t + 1000000) then ReadC P f (fa ++ args ++ ca) S else ACall P pf rf f (fa ++ args ++ ca) S) K := rfl
theorem fnP_yield (P : Program) (pf rf : List FuncId) (t b : Nat) (args : List AV) (S : Store) (K : AV → Store → Prop) : fnP P pf rf t (.fn (.yield b) [] []) args S K = callP (AYT P pf rf t b args S) K := rfl
def AWs (P : Program) (pf rf : List FuncId) (N0 : Nat) (c : CC) (Q : AX → Env → Store → Prop) (e : Env) (S : Store) : Prop := AW P pf rf N0 c Q e S
def ARgs (P : Program) (pf rf : List FuncId) (l : List AO) (e : Env) (S : Store) (K : Env → Store → Prop) : Prop := ARg P pf rf l e S K
def AOps (P : Program) (pf rf : List FuncId) (op : Op) (e : Env) (S : Store) (K : AV → Store → Prop) : Prop := AOp P pf rf op e S K
def convP (k : Kd) (X Y : Unit → Prop) : Prop :=
 match k with
 | .bytes => X ()
 | _ => Y ()
@[congr] theorem convP_congr {k k' : Kd} (X Y : Unit → Prop) (h : k = k') : convP k X Y = convP k' X Y := by rw [h]
theorem convP_bytes (X Y : Unit → Prop) : convP .bytes X Y = X () := rfl
theorem convP_int (k : IntKind) (X Y : Unit → Prop) : convP (.int k) X Y = Y () := rfl
theorem convP_str (X Y : Unit → Prop) : convP .str X Y = Y () := rfl
def ARgk (P : Program) (pf rf : List FuncId) (d : Option Nat) (rest : List AO) (e : Env) (K : Env → Store → Prop) : AV → Store → Prop := fun v S' => ARg P pf rf rest (put e d v) S' K
def bindV (x : Option AV) (K : AV → Store → Prop) (S : Store) : Prop := bindO x fun v => K v S
def bindS (x : Option Store) (K : AV → Store → Prop) : Prop := bindO x fun S' => K .junk S'
def bindC (x : Option (List AV)) (K : AV → Store → Prop) (S : Store) : Prop := bindO x fun cs => K (.ptr S.length 0) (S ++ [.cells cs])
def bindR (x : Option (AV × Store)) (K : AV → Store → Prop) : Prop := bindO x fun r => K r.1 r.2
def bindM (x : Option Unit) (K : AV → Store → Prop) (S : Store) : Prop := bindO x fun _ => K (.mp S.length) (S ++ [.map []])
def guardP (x : Option Bool) (A B : Prop) : Prop := bindO x fun b => iteP b A B
theorem bindV_some (v : AV) (K : AV → Store → Prop) (S : Store) : bindV (some v) K S = K v S := rfl
theorem bindS_some (S' : Store) (K : AV → Store → Prop) : bindS (some S') K = K .junk S' := rfl
def bindZ (x : Option (List AV)) (t : TypeId) (K : AV → Store → Prop) (S : Store) : Prop := bindO x fun z => K (.ptr S.length 0) (S ++ [zobj t z])
theorem bindZ_some (z : List AV) (t : TypeId) (K : AV → Store → Prop) (S : Store) : bindZ (some z) t K S = K (.ptr S.length 0) (S ++ [zobj t z]) := rfl
theorem bindC_some (cs : List AV) (K : AV → Store → Prop) (S : Store) : bindC (some cs) K S = K (.ptr S.length 0) (S ++ [.cells cs]) := rfl
theorem bindR_some (v : AV) (S' : Store) (K : AV → Store → Prop) : bindR (some (v, S')) K = K v S' := rfl
theorem bindM_some (K : AV → Store → Prop) (S : Store) : bindM (some ()) K S = K (.mp S.length) (S ++ [.map []]) := rfl
theorem guardP_some (b : Bool) (A B : Prop) : guardP (some b) A B = iteP b A B := rfl
theorem bindV_mk {x : Option AV} {K : AV → Store → Prop} {S : Store} (v : AV) (h : x = some v) (h' : K v S) : bindV x K S := by rw [h]; exact h'
def pickV (v x y : AV) (K : AV → Store → Prop) (S : Store) : Prop :=
 match v with
 | .bo t => K (if t then x else y) S
 | _ => False
theorem pickV_bo (b : Bool) (x y : AV) (K : AV → Store → Prop) (S : Store) : pickV (.bo b) x y K S = K (if b then x else y) S := rfl
def pickP (v x y : AV) (K : AV → Prop) : Prop :=
 match v with
 | .bo t => K (if t then x else y)
 | _ => False
section
variable (P : Program) (pf rf : List FuncId) (N0 : Nat) (Q : AX → Env → Store → Prop) (next : Env → Store → Prop) (e : Env) (S : Store) (K : AV → Store → Prop)
theorem AW_skip : AW P pf rf N0 .skip Q e S = Q .norm e S := rfl
theorem AW_reg (l : List AO) : AW P pf rf N0 (.reg l) Q e S = ARg P pf rf l e S (Q .norm) := rfl
theorem AW_seq (a b : CC) : AW P pf rf N0 (.seq a b) Q e S = AW P pf rf N0 a (thenQ Q (AW P pf rf N0 b Q)) e S := rfl
theorem AW_cond (c : Operand) (t f : CC) : AW P pf rf N0 (.cond c t f) Q e S = condP (ev e c) (AWs P pf rf N0 t Q e S) (AWs P pf rf N0 f Q e S) := rfl
theorem AW_block (id : Nat) (b : CC) : AW P pf rf N0 (.block id b) Q e S = AW P pf rf N0 b (blockQ id Q) e S := rfl
theorem AW_loop (b : CC) : AW P pf rf N0 (.loop b) Q e S = ALoop N0 (AW P pf rf N0 b) Q e S := rfl
theorem AW_exit (id : Nat) : AW P pf rf N0 (.exit id) Q e S = Q (.exit id) e S := rfl
theorem AW_ret : AW P pf rf N0 .ret Q e S = Q .ret e S := rfl
theorem thenQ_norm : thenQ Q next .norm e S = next e S := rfl
theorem thenQ_ret : thenQ Q next .ret e S = Q .ret e S := rfl
theorem thenQ_exit (id : Nat) : thenQ Q next (.exit id) e S = Q (.exit id) e S := rfl
theorem blockQ_norm (id : Nat) : blockQ id Q .norm e S = Q .norm e S := rfl
theorem blockQ_ret (id : Nat) : blockQ id Q .ret e S = Q .ret e S := rfl
theorem blockQ_same (id : Nat) : blockQ id Q (.exit id) e S = Q .norm e S := by simp [blockQ]
theorem blockQ_exit (id i : Nat) : blockQ id Q (.exit i) e S = if i = id then Q .norm e S else Q (.exit i) e S := by
 show (if i = id then Q .norm else Q (.exit i)) e S = _
 split <;> rfl
theorem ARg_nil (K : Env → Store → Prop) : ARg P pf rf [] e S K = K e S := rfl
theorem ARg_cons (d : Option Nat) (op : Op) (rest : List AO) (K : Env → Store → Prop) : ARg P pf rf (⟨d, op, none⟩ :: rest) e S K = AOp P pf rf op e S (ARgk P pf rf d rest e K) := by
 show iteP true _ _ = _
 rw [iteP_true]
 rfl
theorem ARg_guard (d : Option Nat) (op : Op) (gd : Option Nat × Bool) (rest : List AO) (K : Env → Store → Prop) : ARg P pf rf (⟨d, op, some gd⟩ :: rest) e S K =
  guardP (aGd (some gd) e) (AOps P pf rf op e S (ARgk P pf rf d rest e K)) (ARgs P pf rf rest (put e d (.tup [])) S K) := rfl
theorem AWs_eq (c : CC) : AWs P pf rf N0 c Q e S = AW P pf rf N0 c Q e S := rfl
theorem ARgs_eq (l : List AO) (K : Env → Store → Prop) : ARgs P pf rf l e S K = ARg P pf rf l e S K := rfl
theorem AOps_eq (op : Op) : AOps P pf rf op e S K = AOp P pf rf op e S K := rfl
theorem iteP_trueW (c : CC) (Y : Prop) : iteP true (AWs P pf rf N0 c Q e S) Y = AW P pf rf N0 c Q e S := iteP_true _ _
theorem iteP_falseW (c : CC) (X : Prop) : iteP false X (AWs P pf rf N0 c Q e S) = AW P pf rf N0 c Q e S := iteP_false _ _
theorem iteP_trueO (op : Op) (Y : Prop) : iteP true (AOps P pf rf op e S K) Y = AOp P pf rf op e S K := iteP_true _ _
theorem iteP_falseR (l : List AO) (K : Env → Store → Prop) (X : Prop) : iteP false X (ARgs P pf rf l e S K) = ARg P pf rf l e S K := iteP_false _ _
theorem ARgk_apply (d : Option Nat) (rest : List AO) (K : Env → Store → Prop) (v : AV) : ARgk P pf rf d rest e K v S = ARg P pf rf rest (put e d v) S K := rfl
theorem AOp_move (x : Operand) : AOp P pf rf (.move x) e S K = K (ev e x) S := rfl
theorem AOp_assign (x : Operand) : AOp P pf rf (.assign x) e S K = K (ev e x) S := rfl
theorem AOp_load (t : TypeId) (x : Operand) : AOp P pf rf (.load t x) e S K = bindV (aLoad (szOf P t) S (ev e x)) K S := rfl
theorem AOp_store (t : TypeId) (x y : Operand) : AOp P pf rf (.store t x y) e S K = bindS (aStore (szOf P t) S (ev e x) (ev e y)) K := rfl
theorem AOp_box (t : TypeId) (x : Operand) : AOp P pf rf (.box t x) e S K = bindC (if (ev e x).solid = true then some (ev e x).cells else none) K S := rfl
theorem AOp_alloc (t : TypeId) : AOp P pf rf (.alloc t) e S K = bindZ (zerOf P t) t K S := rfl
theorem AOp_lit (t : TypeId) (n : Nat) (parts : Array (Nat × Operand)) : AOp P pf rf (.buildSlice t n parts) e S K = bindV (aLits P t n (parts.toList.map fun p => (p.1, ev e p.2))) K S := rfl
theorem AOp_make (t : TypeId) (x y : Operand) : AOp P pf rf (.makeSlice t x y) e S K = bindR (orO (aMake P t (ev e x) (ev e y) S) (aMakeW P t (ev e x) (ev e y) S)) K := rfl
theorem AOp_mkMap (t : TypeId) (r : Option Operand) : AOp P pf rf (.makeMap t r) e S K = bindM (okO ((mapOf P t).isSome && aMk (r.map (ev e)))) K S := rfl
theorem AOp_insert (t : TypeId) (m k v : Operand) : AOp P pf rf (.insert t m k v) e S K = bindS (aMapSet (mapOf P t) S (ev e m) (ev e k) (ev e v)) K := rfl
theorem AOp_mapUpd (t : TypeId) (m k v : Operand) : AOp P pf rf (.mapUpdate t m k v) e S K = bindS (aMapSet (mapOf P t) S (ev e m) (ev e k) (ev e v)) K := rfl
theorem AOp_lookup (t : TypeId) (x k : Operand) (b : Bool) : AOp P pf rf (.lookup t x k b) e S K = bindV (aLook (mapOf P t) S (ev e x) (ev e k) b) K S := rfl
theorem AOp_range (t : TypeId) (x : Operand) : AOp P pf rf (.range t x) e S K = bindR (aRange (kdOf P t) S (ev e x)) K := rfl
theorem AOp_next (x : Operand) (b : Bool) : AOp P pf rf (.next x b) e S K = bindR (aNext S (ev e x) b) K := rfl
theorem aSet_nil (cs : List AV) : aSet cs 0 [] = cs := by simp [aSet]
theorem aSet_zero (c u : AV) (cs us : List AV) : aSet (c :: cs) 0 (u :: us) = u :: aSet cs 0 us := by simp [aSet, Nat.add_comm]
theorem aSet_succ (c : AV) (cs us : List AV) (n : Nat) : aSet (c :: cs) (n + 1) us = c :: aSet cs n us := by simp [aSet, Nat.succ_add]
theorem aSet_map {α : Type} (f : α → AV) (l : List α) (i : Nat) (x : α) (h : i < l.length) : aSet (l.map f) i [f x] = (l.set i x).map f := by
 simp only [aSet, List.length_cons, List.length_nil]
 rw [List.set_eq_take_append_cons_drop, if_pos h]
 simp
theorem aSet_st (l : List (List UInt8)) (i : Nat) (x : List UInt8) (h : i < l.length) : aSet (l.map .st) i [.st x] = (l.set i x).map .st := aSet_map .st l i x h
theorem iteN {α : Type} {c : Prop} [Decidable c] (x : α) (h : ¬ c) : (if c then some x else none) = none := if_neg h
theorem AOp_conv (s d : TypeId) (x : Operand) : AOp P pf rf (.convert s d x) e S K = convP (kdOf P d) (fun _ => bindR (aBytes P s d (ev e x) S) K) (fun _ => bindV (aConv P s d (ev e x)) K S) := by
 show (match kdOf P d with | .bytes => _ | _ => _) = _
 unfold convP
 split <;> rfl
theorem AOp_func (f : FuncId) (args : Array Operand) (ts : Array TypeId) : AOp P pf rf (.call { callee := .value (.func f), args := args, argTypes := ts }) e S K = callP (ACall P pf rf f (args.toList.map (ev e)) S) K := by
 show callP (ACall P pf rf f ([] ++ args.toList.map (ev e) ++ []) S) K = _
 rw [List.nil_append, List.append_nil]
theorem AOp_tmp (t : Nat) (args : Array Operand) (ts : Array TypeId) : AOp P pf rf (.call { callee := .value (.tmp t), args := args, argTypes := ts }) e S K = fnP P pf rf t (e t) (args.toList.map (ev e)) S K := by
 unfold AOp fnP
 rfl
theorem AOp_append (x y : Operand) (t u : TypeId) : AOp P pf rf (.call { callee := .builtin .append, args := #[x, y], argTypes := #[t, u] }) e S K = bindR (aApp P t u S (ev e x) (ev e y)) K := rfl
theorem AOp_len (args : Array Operand) (ts : Array TypeId) : AOp P pf rf (.call { callee := .builtin .len, args := args, argTypes := ts }) e S K = bindV (aBui P .len ts (args.toList.map (ev e))) K S := rfl
theorem AOp_min (args : Array Operand) (ts : Array TypeId) : AOp P pf rf (.call { callee := .builtin .min, args := args, argTypes := ts }) e S K = bindV (aBui P .min ts (args.toList.map (ev e))) K S := rfl
theorem AOp_max (args : Array Operand) (ts : Array TypeId) : AOp P pf rf (.call { callee := .builtin .max, args := args, argTypes := ts }) e S K = bindV (aBui P .max ts (args.toList.map (ev e))) K S := rfl
theorem AOp_pick (c x y : Operand) : AOp P pf rf (.pick c x y) e S K = pickV (ev e c) (ev e x) (ev e y) K S := rfl
theorem AOp_nil (x : Operand) : AOp P pf rf (.nilCheck x) e S K = bindV (aNil (ev e x)) K S := rfl
theorem AOp_bin (op : BinOp) (t t' : TypeId) (x y : Operand) : AOp P pf rf (.binOp op t x y t') e S K = bindV (aBinO P op t e x y) K S := rfl
theorem aBinO_tmp (op : BinOp) (t : TypeId) (x : Operand) (y : Nat) : aBinO P op t e x (.tmp y) = aBin P op t (ev e x) (e y) := rfl
theorem aBinO_int (op : BinOp) (t : TypeId) (x : Operand) (k : IntKind) (n : Int) : aBinO P op t e x (.const (.int k n)) = aBin P op t (ev e x) (.it k n) := rfl
theorem aBinO_str (op : BinOp) (t : TypeId) (x : Operand) (a : Array UInt8) : aBinO P op t e x (.const (.string ⟨a⟩)) = aBin P op t (ev e x) (.st a.toList) := rfl
theorem aBinO_bool (op : BinOp) (t : TypeId) (x : Operand) (b : Bool) : aBinO P op t e x (.const (.bool b)) = aBin P op t (ev e x) (.bo b) := rfl
theorem aBinO_agg (op : BinOp) (t : TypeId) (x : Operand) (a : Array Value) : aBinO P op t e x (.const (.agg a)) = aBin P op t (ev e x) (ev e (.const (.agg a))) := rfl
theorem aBinO_ptr (op : BinOp) (t : TypeId) (x : Operand) (a : Option Addr) : aBinO P op t e x (.const (.pointer a)) = aBin P op t (ev e x) (ev e (.const (.pointer a))) := rfl
theorem aBinO_map (op : BinOp) (t : TypeId) (x : Operand) (a : Option Nat) : aBinO P op t e x (.const (.map a)) = aBin P op t (ev e x) (ev e (.const (.map a))) := rfl
theorem aBinO_nfn (op : BinOp) (t : TypeId) (x : Operand) : aBinO P op t e x (.const .nilFunc) = aBin P op t (ev e x) (ev e (.const .nilFunc)) := rfl
theorem aBinO_nil (op : BinOp) (t : TypeId) (x : Operand) (n c : Nat) : aBinO P op t e x (.const (.slice none n c)) = if (sleOf P t).isSome = true then aNilEq op (ev e x) else none := rfl
theorem AOp_un (op : UnOp) (t : TypeId) (x : Operand) : AOp P pf rf (.unOp op t x) e S K = bindV (aUn op (ev e x)) K S := rfl
theorem AOp_fn (f : Fn) (a b : Array Operand) : AOp P pf rf (.makeFunc f a b) e S K = K (.fn f (a.toList.map (ev e)) (b.toList.map (ev e))) S := rfl
theorem AOp_slice (t : TypeId) (x : Operand) (lo hi mx : Option Operand) : AOp P pf rf (.slice t x lo hi mx) e S K = bindV (aSlice P t (ev e x) (lo.map (ev e)) (hi.map (ev e)) (mx.map (ev e))) K S := rfl
theorem AOp_fieldAddr (t : TypeId) (x : Operand) (f : Nat) : AOp P pf rf (.fieldAddr t x f) e S K = bindV (aFldAddr (fldOf P t f) (ev e x)) K S := rfl
theorem AOp_field (t : TypeId) (x : Operand) (f : Nat) : AOp P pf rf (.field t x f) e S K = bindV (aFld (fldOf P t f) (ev e x)) K S := rfl
theorem AOp_indexAddr (t : TypeId) (x i : Operand) : AOp P pf rf (.indexAddr t x i) e S K = bindV (aIdxAddr P t (ev e x) (ev e i)) K S := rfl
theorem AOp_index (t : TypeId) (x i : Operand) : AOp P pf rf (.index t x i) e S K = bindV (aIdx P t (ev e x) (ev e i)) K S := rfl
theorem AOp_extract (t : Operand) (i : Nat) : AOp P pf rf (.extract t i) e S K = bindV (aval P e (.extract t i)) K S := rfl
theorem AOp_build (t : TypeId) (parts : Array (Nat × Operand)) : AOp P pf rf (.build t parts) e S K = bindV (aval P e (.build t parts)) K S := rfl
theorem pickP_bo (b : Bool) (x y : AV) (K : AV → Prop) : pickP (.bo b) x y K = K (if b then x else y) := rfl
theorem ev_tmp (t : Nat) : ev e (.tmp t) = e t := rfl
theorem ev_const (v : Value) : ev e (.const v) = cst v := rfl
theorem ev_global (g : Nat) : ev e (.global g) = .ot (.pointer (some ⟨g, 0, none⟩)) := rfl
theorem ev_func (f : FuncId) : ev e (.func f) = .fn (.func f) [] [] := rfl
theorem put_some (d : Nat) (v : AV) : put e (some d) v = upd e d v := rfl
theorem put_none (v : AV) : put e none v = e := rfl
theorem upd_apply (d t : Nat) (v : AV) : upd e d v t = if t = d then v else e t := rfl
theorem argEnv_zero (a : AV) (l : List AV) : argEnv (a :: l) 0 = a := rfl
theorem argEnv_succ (a : AV) (l : List AV) (n : Nat) : argEnv (a :: l) (n + 1) = argEnv l n := rfl
theorem cst_bool (b : Bool) : cst (.bool b) = .bo b := rfl
theorem cst_int (k : IntKind) (n : Int) : cst (.int k n) = .it k n := rfl
theorem cst_string (a : Array UInt8) : cst (.string ⟨a⟩) = .st a.toList := rfl
theorem cst_nil : cst (.slice none 0 0) = .sl .full [] := rfl
theorem cst_pnil : cst (.pointer none) = .ot (.pointer none) := rfl
theorem cst_fnil : cst .nilFunc = .ot .nilFunc := rfl
theorem cst_mnil : cst (.map none) = .ot (.map none) := rfl
theorem cst_agg (arr : Array Value) : cst (.agg arr) = if arr.toList.all (·.oneCell') then .agg (arr.toList.map cst1) else .junk := rfl
end
theorem call_mk {P : Program} {pf rf : List FuncId} {e : Env} {C : AV → Store → Prop} {d : Option Nat} {rest : List AO} {K : Env → Store → Prop} {v : AV} {S' : Store} (h : C v S') (h' : ARg P pf rf rest (put e d v) S' K) : callP C (ARgk P pf rf d rest e K) := ⟨v, S', h, h'⟩
theorem call_pure {P : Program} {pf rf : List FuncId} {e : Env} {f : FuncId} {args args' : List AV} {S : Store} {d : Option Nat} {rest : List AO} {K : Env → Store → Prop} {v : AV} (h : AC P f args' [] v []) (ha : args.map AV.wk = args') (hk : args'.all (AV.ok 0) = true) (hv : v.ok 0 = true)
  (h' : ARg P pf rf rest (put e d v) S K) : callP (PureC P f args S) (ARgk P pf rf d rest e K) := by
 subst ha
 exact ⟨v, S, ⟨h, hk, hv, rfl⟩, h'⟩
theorem Weak.refl (N0 : Nat) (e : Env) (S : Store) : Weak N0 e S e S := fun _ _ _ _ _ _ h => h
theorem Weak.trans {N0 : Nat} {e e' e'' : Env} {S S' S'' : Store} (h : Weak N0 e S e' S') (h' : Weak N0 e' S' e'' S'') : Weak N0 e S e'' S'' := fun N w0 g0 a w hn hc => h' N w0 g0 a w hn (h N w0 g0 a w hn hc)
theorem Rel.own_full {w : World} {g : Gh} {es : List AV} {cv : Value} {l : Nat} (h : Rel w g (.sl .full es) cv) (hl : l < g.nid) (hb : g.buf l = true) (hwm : g.wm l = es.length) : Rel w g (.sl (.own l) es) cv := by
 cases h with
 | sl _ _ _ A c sz cu hc hcm hsz hA h1 hr hm => exact .sl _ _ es A c sz cu hc hcm hsz hA h1 hr ⟨hl, hb, by omega, .inr (.inl hm)⟩
theorem Weak.reserve (N0 : Nat) {e : Env} {S : Store} (d : Nat) {es : List AV} (hd : e d = .sl .full es) (ty : TypeId) (sz : Nat) : Weak N0 e S (upd e d (.sl (.own S.length) es)) (S ++ [.buf es.length ty sz]) := by
 rintro N w0 g0 a w hn ⟨h1, h2, g, h3, h4, h5⟩
 obtain ⟨g', h6, h7, h8, h9, h10⟩ := h3.reserve es.length ty sz
 refine ⟨h1, h2, g', h6, fun t => ?_, h5.trans h7⟩
 have ht := (h4 t).le h7.toLe
 by_cases htd : t = d
 ·subst htd
  rw [upd_same]
  rw [hd] at ht
  refine ht.own_full ?_ ?_ ?_
  ·rw [h8, ← h3.nid]; omega
  ·rw [← h3.nid]; exact h9
  ·rw [← h3.nid]; exact h10
 ·rw [upd_ne e htd]; exact ht
section
variable {P : Program}
theorem subOk_nil (S : Store) : SubOk [] S [] := ⟨List.nodup_nil, rfl, fun i o hi => by simp at hi⟩
theorem fin0 {rs : List ResultVar} {v : AV} {e : Env} {S : Store} {vs : List AV} (h : aRes P rs e S = some vs) (hk : v.ok 0 = true) (hv : resV vs = v ∨ (resV vs).wk = v) : Fin P rs 0 v [] e S := by
 refine ⟨e, S, vs, [], Weak.refl 0 e S, h, subOk_nil S, rfl, hk, ?_⟩
 rw [ren_id hk (fun i hi => absurd hi (Nat.not_lt_zero _))]
 exact hv
theorem ends_ret0 {rs : List ResultVar} {v : AV} {e : Env} {S : Store} {vs : List AV} (h : aRes P rs e S = some vs) (hk : v.ok 0 = true) (hv : resV vs = v) : finQ P rs 0 v [] .ret e S := fin0 h hk (.inl hv)
theorem ends_ret0w {rs : List ResultVar} {v : AV} {e : Env} {S : Store} {vs : List AV} (h : aRes P rs e S = some vs) (hk : v.ok 0 = true) (hv : (resV vs).wk = v) : finQ P rs 0 v [] .ret e S := fin0 h hk (.inr hv)
theorem ends_norm0 {rs : List ResultVar} {v : AV} {e : Env} {S : Store} {vs : List AV} (h : aRes P rs e S = some vs) (hk : v.ok 0 = true) (hv : resV vs = v) : finQ P rs 0 v [] .norm e S := fin0 h hk (.inl hv)
theorem ends_ret {rs : List ResultVar} {v : AV} {e : Env} {S S' : Store} {vs : List AV} {N0 : Nat} (κ : List Nat) (h : aRes P rs e S = some vs) (hs : SubOk κ S S') (hn : κ.take N0 = List.range N0) (hk : v.ok κ.length = true) (hv : resV vs = v.ren (idx κ)) : finQ P rs N0 v S' .ret e S :=
 ⟨e, S, vs, κ, Weak.refl N0 e S, h, hs, hn, hk, .inl hv⟩
theorem ends_retW {rs : List ResultVar} {v : AV} {e : Env} {S S' : Store} {vs : List AV} {N0 : Nat} (e1 : Env) (S1 : Store) (hw : Weak N0 e S e1 S1) (κ : List Nat) (h : aRes P rs e1 S1 = some vs) (hs : SubOk κ S1 S') (hn : κ.take N0 = List.range N0) (hk : v.ok κ.length = true) (hv : resV vs = v.ren (idx κ)) : finQ P rs N0 v S' .ret e S :=
 ⟨e1, S1, vs, κ, hw, h, hs, hn, hk, .inl hv⟩
theorem subOk_two (k k' : Nat) {S : Store} {o o' : SObj} (hne : k ≠ k') (ho : o.ok 2 = true) (ho' : o'.ok 2 = true) (h : S[k]? = some (o.ren (idx [k, k']))) (h' : S[k']? = some (o'.ren (idx [k, k']))) : SubOk [k, k'] S [o, o'] := ⟨by simp [hne], rfl, fun i o1 hi => by
  match i, hi with
  | 0, hi => cases hi; exact ⟨ho, h⟩
  | 1, hi => cases hi; exact ⟨ho', h'⟩⟩
theorem subOk_one (k : Nat) {S : Store} {o : SObj} (ho : o.ok 1 = true) (h : S[k]? = some (o.ren (idx [k]))) : SubOk [k] S [o] := ⟨by simp, rfl, fun i o1 hi => by
  cases i with
  | zero => cases hi; exact ⟨ho, h⟩
  | succ i => simp at hi⟩
theorem AC.fresh1 {f : FuncId} {args : List AV} {v : AV} {o : SObj} (h : AC P f args [] v [o]) (ha : args.all (AV.ok 0) = true) (hv : v.ok 1 = true) (ho : o.ok 1 = true) (T : Store) :
  AC P f args T (v.ren (fun i => T.length + i)) (T ++ [o.ren (fun i => T.length + i)]) := by
 have := h.frame (T := T) [] ⟨List.nodup_nil, rfl, fun i o hi => by simp at hi⟩ ha hv (fun i o1 hi => by
  cases i with
  | zero => cases hi; exact ho
  | succ i => simp at hi)
 rw [map_id_of ha (fun v hv => ren_id hv (fun i hi => absurd hi (Nat.not_lt_zero _)))] at this
 have e : ext [] T.length = fun i => T.length + i := by funext i; simp [ext]
 simpa [after, setAll, e] using this
end
theorem AC.at1 {P : Program} {f : FuncId} {args : List AV} {v : AV} {o o' : SObj} {T : Store} (h : AC P f args [o] v [o']) (l : Nat) (hl : T[l]? = some (o.ren (idx [l]))) (ha : args.all (AV.ok 1) = true) (hv : v.ok 1 = true) (ho : o.ok 1 = true) (ho' : o'.ok 1 = true) :
  AC P f (args.map (AV.ren (idx [l]))) T (v.ren (ext [l] T.length)) (T.set l (o'.ren (ext [l] T.length))) := by
 have := h.frame (T := T) [l] ⟨by simp, rfl, fun i o1 hi => by
  cases i with
  | zero => cases hi; exact ⟨ho, hl⟩
  | succ i => simp at hi⟩ ha hv (fun i o1 hi => by
  cases i with
  | zero => cases hi; exact ho'
  | succ i => simp at hi)
 simpa [after, setAll] using this
theorem loop_mk {N0 : Nat} {B : (AX → Env → Store → Prop) → Env → Store → Prop} {Q : AX → Env → Store → Prop} {e : Env} {S : Store} (I : Nat → Env → Store → Prop) (n : Nat) (h0 : I n e S)
  (h : ∀ n e S, I n e S → B (thenQ Q (roundP N0 I n)) e S) : ALoop N0 B Q e S := ⟨I, ⟨n, e, S, Weak.refl N0 e S, h0⟩, h⟩
theorem loop_mk' {N0 : Nat} {B : (AX → Env → Store → Prop) → Env → Store → Prop} {Q : AX → Env → Store → Prop} {e : Env} {S : Store} (I : Nat → Env → Store → Prop) (n : Nat) (e' : Env) (S' : Store) (hw : Weak N0 e S e' S') (h0 : I n e' S')
  (h : ∀ n e S, I n e S → B (thenQ Q (roundP N0 I n)) e S) : ALoop N0 B Q e S := ⟨I, ⟨n, e', S', hw, h0⟩, h⟩
theorem round_mk {N0 : Nat} {I : Nat → Env → Store → Prop} {n : Nat} {e : Env} {S : Store} (n' : Nat) (hn : n' < n) (h : I n' e S) : roundP N0 I n e S := ⟨n', e, S, hn, Weak.refl N0 e S, h⟩
theorem round_mk' {N0 : Nat} {I : Nat → Env → Store → Prop} {n : Nat} {e : Env} {S : Store} (n' : Nat) (e' : Env) (S' : Store) (hw : Weak N0 e S e' S') (hn : n' < n) (h : I n' e' S') : roundP N0 I n e S := ⟨n', e', S', hn, hw, h⟩
theorem iteS {α : Type} {c : Prop} [Decidable c] (x : α) (h : c) : (if c then some x else none) = some x := if_pos h
theorem fits_ok {n b : Nat} (h : n * b ≤ 140737488355328) (h' : n ≤ 140737488355328) : fits n b = true := by simp [fits, h, h']
theorem dT {p : Prop} [Decidable p] (h : p) : decide p = true := decide_eq_true h
theorem dF {p : Prop} [Decidable p] (h : ¬ p) : decide p = false := decide_eq_false h
theorem beqT {a b : Int} (h : a = b) : (a == b) = true := by simp [h]
theorem beqF {a b : Int} (h : a ≠ b) : (a == b) = false := by simp [h]
theorem bneT {a b : Int} (h : a ≠ b) : (a != b) = true := by simp [h]
theorem bneF {a b : Int} (h : a = b) : (a != b) = false := by simp [h]
theorem iteP_dec {p : Prop} [Decidable p] {X Y : Prop} (h : p → X) (h' : ¬ p → Y) : iteP (decide p) X Y := ⟨fun e => h (of_decide_eq_true e), fun e => h' (of_decide_eq_false e)⟩
theorem iteP_eq {α : Type} [DecidableEq α] {a b : α} {X Y : Prop} (h : a = b → X) (h' : a ≠ b → Y) : iteP (a == b) X Y := ⟨fun e => h (by simpa using e), fun e => h' (by simpa using e)⟩
theorem iteP_ne {α : Type} [DecidableEq α] {a b : α} {X Y : Prop} (h : a ≠ b → X) (h' : a = b → Y) : iteP (a != b) X Y := ⟨fun e => h (by simpa using e), fun e => h' (by simpa using e)⟩
theorem iteP_not {b : Bool} {X Y : Prop} (h : iteP b Y X) : iteP (!b) X Y := ⟨fun e => h.2 (by simpa using e), fun e => h.1 (by simpa using e)⟩
theorem beq_t (b : Bool) : (b == true) = b := by cases b <;> rfl
theorem beq_f (b : Bool) : (b == false) = !b := by cases b <;> rfl
theorem aGd_mk (d : Nat) (want : Bool) (e : Env) (b : Bool) (h : e d = .bo b) : aGd (some (some d, want)) e = some (b == want) := by simp [aGd, h]
theorem bindO_mk {α : Type} {x : Option α} {K : α → Prop} (v : α) (h : x = some v) (h' : K v) : bindO x K := by rw [h]; exact h'
theorem allSz_map {α : Type} (sz : Nat) (f : α → AV) (h : ∀ a, (f a).cells.length = sz) (l : List α) : allSz sz (l.map f) = true := by
 simp [allSz, h]
theorem allSz_st (l : List (List UInt8)) : allSz 1 (l.map .st) = true := allSz_map 1 _ (fun _ => rfl) l
theorem allSz_u8 (l : List UInt8) : allSz 1 (l.map u8) = true := allSz_map 1 _ (fun _ => rfl) l
theorem allSz_append (sz : Nat) (l r : List AV) : allSz sz (l ++ r) = (allSz sz l && allSz sz r) := by simp [allSz]
theorem allSz_cons (sz : Nat) (v : AV) (l : List AV) : allSz sz (v :: l) = (v.cells.length == sz && allSz sz l) := rfl
theorem allSz_nil (sz : Nat) : allSz sz [] = true := rfl
theorem allSz_one (v : AV) (h : v.cells.length = 1) : allSz 1 [v] = true := by simp [allSz, h]
theorem wrap64 {n : Int} (h : -9223372036854775808 ≤ n) (h' : n ≤ 9223372036854775807) : IntKind.i64.wrap n = n := by rw [IntKind.wrap_i64]; omega
end Go.Proofs.Ytjicccjpooahoaa.Pe
namespace Go.Proofs.Ytjicccjpooahoaa.Pe
open Go Go.RowKit
variable [Tab]
theorem AC.ofBelow {P : Program} {f : FuncId} {args : List AV} {v : AV} (hcan : callable P f = true)
  (h : ∀ (w : World) (g : Gh) (cargs : Array Value), TabOk w g → LRel w g args cargs → Calls P f cargs w fun r w' => ∃ cv, r = .returned cv ∧ (∀ g', Rel w' g' v cv) ∧ Below w.heap.size w w') : AC P f args [] v [] := by
 refine ⟨hcan, fun w g cargs hw hargs => ?_⟩
 refine (h w g cargs hw.tab hargs).mono ?_
 rintro r w' ⟨cv, rfl, h1, h2⟩
 exact ⟨cv, g, rfl, hw.below h2, h1 g, Evo.below g h2⟩
theorem lrel_one {w : World} {g : Gh} {v : AV} {cargs : Array Value} (h : LRel w g [v] cargs) : ∃ cv, cargs = #[cv] ∧ Rel w g v cv := by
 obtain ⟨h1, h2⟩ := h
 have h0 : 0 < cargs.size := by rw [h1]; simp
 refine ⟨cargs[0], ?_, h2 0 v _ rfl (Array.getElem?_eq_getElem h0)⟩
 apply Array.ext
 ·simpa using h1
 ·intro i hi hi'
  have : i = 0 := by simp at h1; omega
  subst this
  rfl
theorem lrel_st {w : World} {g : Gh} {l : List UInt8} {cargs : Array Value} (h : LRel w g [.st l] cargs) : cargs = #[.string ⟨l.toArray⟩] := by
 obtain ⟨cv, rfl, hr⟩ := lrel_one h
 cases hr
 rfl
end Go.Proofs.Ytjicccjpooahoaa.Pe
namespace Go.Proofs.Ytjicccjpooahoaa.Pe
open Go
set_option maxRecDepth 100000
theorem zpre :
  (type_of% @AW_skip) ∧
  (type_of% @AW_reg) ∧
  (type_of% @AW_seq) ∧
  (type_of% @AW_cond) ∧
  (type_of% @AW_block) ∧
  (type_of% @AW_loop) ∧
  (type_of% @AW_exit) ∧
  (type_of% @AW_ret) ∧
  (type_of% @thenQ_norm) ∧
  (type_of% @thenQ_ret) ∧
  (type_of% @thenQ_exit) ∧
  (type_of% @blockQ_norm) ∧
  (type_of% @blockQ_ret) ∧
  (type_of% @blockQ_same) ∧
  (type_of% @blockQ_exit) ∧
  (type_of% @ARg_nil) ∧
  (type_of% @ARg_cons) ∧
  (type_of% @ARgk_apply) ∧
  (type_of% @ARg_guard) ∧
  (type_of% @AOp_move) ∧
  (type_of% @AOp_assign) ∧
  (type_of% @AOp_load) ∧
  (type_of% @AOp_store) ∧
  (type_of% @AOp_box) ∧
  (type_of% @AOp_alloc) ∧
  (type_of% @AOp_lit) ∧
  (type_of% @AOp_make) ∧
  (type_of% @AOp_func) ∧
  (type_of% @AOp_tmp) ∧
  (type_of% @AOp_append) ∧
  (type_of% @AOp_len) ∧
  (type_of% @AOp_min) ∧
  (type_of% @AOp_max) ∧
  (type_of% @AOp_pick) ∧
  (type_of% @AOp_nil) ∧
  (type_of% @AOp_bin) ∧
  (type_of% @aBinO_tmp) ∧
  (type_of% @aBinO_int) ∧
  (type_of% @aBinO_str) ∧
  (type_of% @aBinO_bool) ∧
  (type_of% @aBinO_agg) ∧
  (type_of% @aBinO_ptr) ∧
  (type_of% @aBinO_map) ∧
  (type_of% @aBinO_nfn) ∧
  (type_of% @aBinO_nil) ∧
  (type_of% @AOp_un) ∧
  (type_of% @AOp_fn) ∧
  (type_of% @AOp_slice) ∧
  (type_of% @AOp_fieldAddr) ∧
  (type_of% @AOp_field) ∧
  (type_of% @AOp_indexAddr) ∧
  (type_of% @AOp_index) ∧
  (type_of% @AOp_extract) ∧
  (type_of% @AOp_build) ∧
  (type_of% @AOp_conv) ∧
  (type_of% @AOp_mkMap) ∧
  (type_of% @AOp_insert) ∧
  (type_of% @AOp_mapUpd) ∧
  (type_of% @AOp_lookup) ∧
  (type_of% @AOp_range) ∧
  (type_of% @AOp_next) ∧
  (type_of% @ev_tmp) ∧
  (type_of% @ev_const) ∧
  (type_of% @ev_global) ∧
  (type_of% @ev_func) ∧
  (type_of% @put_some) ∧
  (type_of% @put_none) ∧
  (type_of% @upd_apply) ∧
  (type_of% @argEnv_zero) ∧
  (type_of% @argEnv_succ) ∧
  (type_of% @cst_bool) ∧
  (type_of% @cst_int) ∧
  (type_of% @cst_string) ∧
  (type_of% @cst_nil) ∧
  (type_of% @cst_pnil) ∧
  (type_of% @cst_fnil) ∧
  (type_of% @cst_mnil) :=
 ⟨@AW_skip, @AW_reg, @AW_seq, @AW_cond, @AW_block, @AW_loop, @AW_exit, @AW_ret, @thenQ_norm, @thenQ_ret, @thenQ_exit, @blockQ_norm, @blockQ_ret, @blockQ_same, @blockQ_exit, @ARg_nil, @ARg_cons, @ARgk_apply, @ARg_guard, @AOp_move, @AOp_assign, @AOp_load, @AOp_store, @AOp_box, @AOp_alloc, @AOp_lit, @AOp_make, @AOp_func, @AOp_tmp, @AOp_append, @AOp_len, @AOp_min, @AOp_max, @AOp_pick, @AOp_nil, @AOp_bin, @aBinO_tmp, @aBinO_int, @aBinO_str, @aBinO_bool, @aBinO_agg, @aBinO_ptr, @aBinO_map, @aBinO_nfn, @aBinO_nil, @AOp_un, @AOp_fn, @AOp_slice, @AOp_fieldAddr, @AOp_field, @AOp_indexAddr, @AOp_index, @AOp_extract, @AOp_build, @AOp_conv, @AOp_mkMap, @AOp_insert, @AOp_mapUpd, @AOp_lookup, @AOp_range, @AOp_next, @ev_tmp, @ev_const, @ev_global, @ev_func, @put_some, @put_none, @upd_apply, @argEnv_zero, @argEnv_succ, @cst_bool, @cst_int, @cst_string, @cst_nil, @cst_pnil, @cst_fnil, @cst_mnil⟩
theorem zpost :
  (type_of% @convP_bytes) ∧
  (type_of% @convP_int) ∧
  (type_of% @convP_str) ∧
  (type_of% @cst_agg) ∧
  (type_of% @bindO_some) ∧
  (type_of% @List.take_length.{0}) ∧
  (type_of% @aSet_st) ∧
  (type_of% @aSet_succ) ∧
  (type_of% @aSet_zero) ∧
  (type_of% @aSet_nil) ∧
  (type_of% @mkz_one) ∧
  (type_of% @false_and) ∧
  (type_of% @okO_true) ∧
  (type_of% @orO_none) ∧
  (type_of% @orO_some) ∧
  (type_of% @bindO_none) ∧
  (type_of% @bindV_some) ∧
  (type_of% @bindS_some) ∧
  (type_of% @bindC_some) ∧
  (type_of% @bindZ_some) ∧
  (type_of% @bindR_some) ∧
  (type_of% @bindM_some) ∧
  (type_of% @guardP_some) ∧
  (type_of% @pickV_bo) ∧
  (type_of% @wrap64) ∧
  (type_of% @iteS) ∧
  (type_of% @fits_ok) ∧
  (type_of% @beq_t) ∧
  (type_of% @beq_f) ∧
  (type_of% @dT) ∧
  (type_of% @dF) ∧
  (type_of% @beqT) ∧
  (type_of% @beqF) ∧
  (type_of% @bneT) ∧
  (type_of% @bneF) ∧
  (type_of% @iteP_trueW) ∧
  (type_of% @iteP_falseW) ∧
  (type_of% @iteP_trueO) ∧
  (type_of% @iteP_falseR) ∧
  (type_of% @condP_bo) ∧
  (type_of% @fnP_fn) ∧
  (type_of% @fnP_yield) ∧
  (type_of% @pickP_bo) ∧
  (type_of% @Bool.or_true) ∧
  (type_of% @Bool.true_or) ∧
  (type_of% @Bool.or_false) ∧
  (type_of% @Bool.false_or) ∧
  (type_of% @decide_true) ∧
  (type_of% @decide_false) ∧
  (type_of% @Bool.not_true) ∧
  (type_of% @Bool.not_false) ∧
  (type_of% @Bool.true_and) ∧
  (type_of% @Bool.and_true) ∧
  (type_of% @Bool.false_and) ∧
  (type_of% @Bool.and_false) ∧
  (type_of% @beq_self_eq_true.{0}) ∧
  (type_of% @List.map_cons.{0, 0}) ∧
  (type_of% @List.map_nil.{0, 0}) ∧
  (type_of% @List.nil_append.{0}) ∧
  (type_of% @List.append_nil.{0}) ∧
  (type_of% @List.cons_append.{0}) ∧
  (type_of% @List.length_nil.{0}) ∧
  (type_of% @List.length_cons.{0}) ∧
  (type_of% @List.length_map.{0, 0}) ∧
  (type_of% @List.length_append.{0}) ∧
  (type_of% @List.getElem?_cons_zero.{0}) ∧
  (type_of% @List.getElem?_cons_succ.{0}) ∧
  (type_of% @List.getElem?_nil.{0}) ∧
  (type_of% @List.getElem?_toArray.{0}) ∧
  (type_of% @List.set_cons_zero.{0}) ∧
  (type_of% @List.set_cons_succ.{0}) ∧
  (type_of% @List.contains_cons.{0}) ∧
  (type_of% @List.contains_nil.{0}) ∧
  (type_of% @List.elem_nil.{0}) ∧
  (type_of% @allSz_st) ∧
  (type_of% @allSz_u8) ∧
  (type_of% @allSz_append) ∧
  (type_of% @allSz_cons) ∧
  (type_of% @allSz_nil) ∧
  (type_of% @List.getElem?_map.{0, 0}) ∧
  (type_of% @bytesOf_map) ∧
  (type_of% @List.range'_succ) ∧
  (type_of% @List.range'_zero) ∧
  (type_of% @List.cons.injEq.{0}) ∧
  (type_of% @List.take_succ_cons.{0}) ∧
  (type_of% @List.take_zero.{0}) ∧
  (type_of% @List.drop_succ_cons.{0}) ∧
  (type_of% @List.drop_zero.{0}) ∧
  (type_of% @List.take_nil.{0}) ∧
  (type_of% @List.drop_nil.{0}) ∧
  (type_of% @Option.map_some.{0, 0}) ∧
  (type_of% @Option.map_none.{0, 0}) ∧
  (type_of% @Option.isSome_some.{0}) ∧
  (type_of% @Option.isNone_none.{0}) ∧
  (type_of% @Option.all_some.{0}) ∧
  (type_of% @and_self) ∧
  (type_of% @and_true) ∧
  (type_of% @true_and) ∧
  (type_of% @ne_eq.{0}) ∧
  (type_of% @not_true_eq_false) ∧
  (type_of% @not_false_eq_true) ∧
  (type_of% @Bool.false_eq_true) ∧
  (type_of% @Nat.zero_add) ∧
  (type_of% @Nat.add_zero) ∧
  (type_of% @Int.toNat_natCast) ∧
  (type_of% @Nat.zero_le) ∧
  (type_of% @Nat.le_refl) ∧
  (type_of% @List.all_cons.{0}) ∧
  (type_of% @List.all_nil.{0}) ∧
  (type_of% @Nat.not_lt_zero) ∧
  (type_of% @true_implies) ∧
  (type_of% @forall_const.{0}) :=
 ⟨@convP_bytes, @convP_int, @convP_str, @cst_agg, @bindO_some, @List.take_length, @aSet_st, @aSet_succ, @aSet_zero, @aSet_nil, @mkz_one, @false_and, @okO_true, @orO_none, @orO_some, @bindO_none, @bindV_some, @bindS_some, @bindC_some, @bindZ_some, @bindR_some, @bindM_some, @guardP_some, @pickV_bo, @wrap64, @iteS, @fits_ok, @beq_t, @beq_f, @dT, @dF, @beqT, @beqF, @bneT, @bneF, @iteP_trueW, @iteP_falseW, @iteP_trueO, @iteP_falseR, @condP_bo, @fnP_fn, @fnP_yield, @pickP_bo, @Bool.or_true, @Bool.true_or, @Bool.or_false, @Bool.false_or, @decide_true, @decide_false, @Bool.not_true, @Bool.not_false, @Bool.true_and, @Bool.and_true, @Bool.false_and, @Bool.and_false, @beq_self_eq_true, @List.map_cons, @List.map_nil, @List.nil_append, @List.append_nil, @List.cons_append, @List.length_nil, @List.length_cons, @List.length_map, @List.length_append, @List.getElem?_cons_zero, @List.getElem?_cons_succ, @List.getElem?_nil, @List.getElem?_toArray, @List.set_cons_zero, @List.set_cons_succ, @List.contains_cons, @List.contains_nil, @List.elem_nil, @allSz_st, @allSz_u8, @allSz_append, @allSz_cons, @allSz_nil, @List.getElem?_map, @bytesOf_map, @List.range'_succ, @List.range'_zero, @List.cons.injEq, @List.take_succ_cons, @List.take_zero, @List.drop_succ_cons, @List.drop_zero, @List.take_nil, @List.drop_nil, @Option.map_some, @Option.map_none, @Option.isSome_some, @Option.isNone_none, @Option.all_some, @and_self, @and_true, @true_and, @ne_eq, @not_true_eq_false, @not_false_eq_true, @Bool.false_eq_true, @Nat.zero_add, @Nat.add_zero, @Int.toNat_natCast, @Nat.zero_le, @Nat.le_refl, @List.all_cons, @List.all_nil, @Nat.not_lt_zero, @true_implies, @forall_const⟩
end Go.Proofs.Ytjicccjpooahoaa.Pe
