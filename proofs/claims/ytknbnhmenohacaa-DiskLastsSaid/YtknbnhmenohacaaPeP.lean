/- A function's whole text on plain values, and its contract. Nothing of the program. -/
import Derived.Test.YtknbnhmenohacaaPeO
namespace Go.Proofs.Ytknbnhmenohacaa.Pe
set_option linter.unusedSectionVars false
set_option linter.unusedVariables false
set_option linter.unusedSimpArgs false
open Go Go.RowKit
variable [Tab]
structure AO where
  dst : Option Nat
  op : Op
  gd : Option (Option Nat × Bool)
inductive CC where
  | skip | reg (l : List AO) | seq (a b : CC) | cond (c : Operand) (t f : CC) | block (id : Nat) (b : CC) | loop (b : CC) | exit (id : Nat) | ret | bad
inductive AX where
  | norm | exit (id : Nat) | ret
def eraseO (ops : Array Oper) (o : Oper) : AO := ⟨o.dst, o.op, match o.guard with
  | none => none
  | some (j, want) => some ((ops[j]?).bind (·.dst), want)⟩
def eraseC : Code → CC
  | .skip => .skip
  | .label _ => .skip
  | .region _ ops _ => .reg (ops.toList.map (eraseO ops))
  | .seq a b => .seq (eraseC a) (eraseC b)
  | .cond c a b => .cond c (eraseC a) (eraseC b)
  | .block id b => .block id (eraseC b)
  | .loop b => .loop (eraseC b)
  | .exit id => .exit id
  | .ret => .ret
  | _ => .bad
def aGd (gd : Option (Option Nat × Bool)) (e : Env) : Option Bool :=
  match gd with
  | none => some true
  | some (none, _) => some false
  | some (some d, want) => match e d with
    | .bo b => some (b == want)
    | .tup [] => some false
    | _ => none
def ARg (P : Program) (pf rf : List FuncId) : List AO → Env → Store → (Env → Store → Prop) → Prop
  | [], e, S, K => K e S
  | o :: rest, e, S, K => bindO (aGd o.gd e) fun b => iteP b (AOp P pf rf o.op e S fun v S' => ARg P pf rf rest (put e o.dst v) S' K) (ARg P pf rf rest (put e o.dst (.tup [])) S K)
/-- the same memory, less said of it -/
def Weak (N0 : Nat) (e : Env) (S : Store) (e' : Env) (S' : Store) : Prop :=
  ∀ (N : Nat) (w0 : World) (g0 : Gh) (a : Act) (w : World), g0.nid = N0 → Conc N w0 g0 e S a w → Conc N w0 g0 e' S' a w
def thenQ (Q : AX → Env → Store → Prop) (next : Env → Store → Prop) : AX → Env → Store → Prop
  | .norm => next
  | x => Q x
/-- the end of a round -/
def roundP (N0 : Nat) (I : Nat → Env → Store → Prop) (n : Nat) (e : Env) (S : Store) : Prop := ∃ n' e' S', n' < n ∧ Weak N0 e S e' S' ∧ I n' e' S'
def ALoop (N0 : Nat) (B : (AX → Env → Store → Prop) → Env → Store → Prop) (Q : AX → Env → Store → Prop) (e : Env) (S : Store) : Prop :=
  ∃ I : Nat → Env → Store → Prop, (∃ n e' S', Weak N0 e S e' S' ∧ I n e' S') ∧ ∀ n e S, I n e S → B (thenQ Q (roundP N0 I n)) e S
def blockQ (id : Nat) (Q : AX → Env → Store → Prop) : AX → Env → Store → Prop
  | .exit i => if i = id then Q .norm else Q (.exit i)
  | x => Q x
def AW (P : Program) (pf rf : List FuncId) (N0 : Nat) : CC → (AX → Env → Store → Prop) → Env → Store → Prop
  | .skip, Q, e, S => Q .norm e S
  | .reg l, Q, e, S => ARg P pf rf l e S (Q .norm)
  | .seq a b, Q, e, S => AW P pf rf N0 a (thenQ Q (AW P pf rf N0 b Q)) e S
  | .cond c t f, Q, e, S => match ev e c with
    | .bo b => iteP b (AW P pf rf N0 t Q e S) (AW P pf rf N0 f Q e S)
    | _ => False
  | .block id b, Q, e, S => AW P pf rf N0 b (blockQ id Q) e S
  | .loop b, Q, e, S => ALoop N0 (AW P pf rf N0 b) Q e S
  | .exit id, Q, e, S => Q (.exit id) e S
  | .ret, Q, e, S => Q .ret e S
  | .bad, _, _, _ => False
def codeOk (P : Program) (pf rf : List FuncId) (N : Nat) : Code → Bool
  | .region _ ops draw => dstsOk N ops && (!draw || lexOk (clsOf P pf rf) ops)
  | .seq a b => codeOk P pf rf N a && codeOk P pf rf N b
  | .cond _ a b => codeOk P pf rf N a && codeOk P pf rf N b
  | .block _ b => codeOk P pf rf N b
  | .loop b => codeOk P pf rf N b
  | _ => true
def toQ (N : Nat) (w0 : World) (g0 : Gh) (Q : AX → Env → Store → Prop) : Exit → Act → World → Prop
  | .normal, a, w => ∃ e S, Conc N w0 g0 e S a w ∧ Q .norm e S
  | .exit id, a, w => ∃ e S, Conc N w0 g0 e S a w ∧ Q (.exit id) e S
  | .ret, a, w => ∃ e S, Conc N w0 g0 e S a w ∧ Q .ret e S
  | _, _, _ => False
section
variable {P : Program} {N N0 : Nat} {w0 : World} {g0 : Gh} {pf rf : List FuncId}
theorem wpL_of_ARg {ops : Array Oper} {Q : Env → Store → Prop} : ∀ (l : List Oper) (e : Env) (S : Store), ARg P pf rf (l.map (eraseO ops)) e S Q → wpL P (clsOf P pf rf) ops Q l e S
  | [], e, S, h => h
  | o :: rest, e, S, h => by
    simp only [List.map_cons, ARg] at h
    have hg : aGd (eraseO ops o).gd e = aWant ops o e := by
      unfold eraseO aWant
      cases hgd : o.guard with
      | none => rfl
      | some p =>
        obtain ⟨j, want⟩ := p
        simp only [aGd, aYield]
        cases hd : (ops[j]?).bind (·.dst) with
        | none => cases want <;> rfl
        | some d =>
          simp only
          cases he : e d with
          | bo b => cases b <;> cases want <;> rfl
          | tup vs => cases vs <;> cases want <;> rfl
          | _ => rfl
    rw [hg] at h
    unfold wpL
    obtain ⟨b, hb, h⟩ := bindO_spec h
    · simp only [hb]
      cases b with
      | true =>
        obtain ⟨v, S', h1, h2⟩ := AOp_ok (o := o) (h.1 rfl)
        exact ⟨v, S', h1, wpL_of_ARg rest _ _ h2⟩
      | false => exact wpL_of_ARg rest _ _ (h.2 rfl)
theorem AW_ok (hm : P.follows .mixedOrders = true) (hN0 : g0.nid = N0) : ∀ (c : Code) (Q : AX → Env → Store → Prop) (e : Env) (S : Store) (a : Act) (w : World), codeOk P pf rf N c = true → Conc N w0 g0 e S a w → AW P pf rf N0 (eraseC c) Q e S → c.wp P (toQ N w0 g0 Q) a w := by
  intro c
  induction c with
  | skip => intro Q e S a w _ hc h; exact wp_skip ⟨e, S, hc, h⟩
  | label l => intro Q e S a w _ hc h; exact wp_label ⟨e, S, hc, h⟩
  | ret => intro Q e S a w _ hc h; exact wp_ret ⟨e, S, hc, h⟩
  | exit id => intro Q e S a w _ hc h; exact wp_exit ⟨e, S, hc, h⟩
  | region id ops draw =>
    intro Q e S a w hok hc h
    simp only [codeOk, Bool.and_eq_true] at hok
    simp only [eraseC, AW] at h
    have hL := wpL_of_ARg ops.toList e S h
    have hQ : ∀ e S a w, Conc N w0 g0 e S a w → Q .norm e S → toQ N w0 g0 Q .normal a w := fun e S a w hc hq => ⟨e, S, hc, hq⟩
    cases draw with
    | false => exact region_list hok.1 hQ hc hL
    | true => exact region_draws hm (by simpa using hok.2) hok.1 hQ hc hL
  | seq x y ihx ihy =>
    intro Q e S a w hok hc h
    simp only [codeOk, Bool.and_eq_true] at hok
    simp only [eraseC, AW] at h
    refine wp_seq (wp_mono (ihx _ e S a w hok.1 hc h) ?_)
    intro ex a' w' hq
    cases ex with
    | normal => obtain ⟨e', S', hc', h'⟩ := hq; exact ihy Q e' S' a' w' hok.2 hc' h'
    | exit id => exact hq
    | ret => exact hq
    | _ => exact hq.elim
  | cond c x y ihx ihy =>
    intro Q e S a w hok hc h
    simp only [codeOk, Bool.and_eq_true] at hok
    simp only [eraseC, AW] at h
    split at h
    · rename_i b hb
      have hcb : a.eval c = .bool b := by
        obtain ⟨_, _, g, _, h4, _⟩ := hc
        have := ev_ok h4 c
        rw [hb] at this
        cases hv : a.eval c <;> rw [hv] at this <;> cases this
        rfl
      refine wp_cond_split hcb (fun ht => ihx Q e S a w hok.1 hc (h.1 ht)) (fun hf => ihy Q e S a w hok.2 hc (h.2 hf))
    · exact h.elim
  | block id c ih =>
    intro Q e S a w hok hc h
    simp only [eraseC, AW] at h
    refine wp_block (wp_mono (ih _ e S a w hok hc h) ?_)
    intro ex a' w' hq
    cases ex with
    | normal => exact hq
    | exit i =>
      obtain ⟨e', S', hc', h'⟩ := hq
      simp only [blockQ] at h'
      simp only [Exit.inBlock]
      by_cases hi : i = id
      · rw [if_pos hi] at h' ⊢; exact ⟨e', S', hc', h'⟩
      · rw [if_neg hi] at h' ⊢; exact ⟨e', S', hc', h'⟩
    | ret => exact hq
    | _ => exact hq.elim
  | loop c ih =>
    intro Q e S a w hok hc h
    simp only [eraseC, AW] at h
    obtain ⟨I, ⟨n, e', S', hwk, hI⟩, hround⟩ := h
    refine wp_loop_ghost (fun n a w => ∃ e S, Conc N w0 g0 e S a w ∧ I n e S) n ⟨e', S', hwk N w0 g0 a w hN0 hc, hI⟩ ?_
    rintro n a w ⟨e, S, hc, hI⟩
    refine wp_mono (ih _ e S a w hok hc (hround n e S hI)) ?_
    intro ex a' w' hq
    cases ex with
    | normal =>
      obtain ⟨e1, S1, hc1, n', e2, S2, hlt, hwk', hI'⟩ := hq
      exact ⟨n', hlt, e2, S2, hwk' N w0 g0 a' w' hN0 hc1, hI'⟩
    | exit i => exact hq
    | ret => exact hq
    | _ => exact hq.elim
  | _ => intro Q e S a w _ _ h; exact h.elim
end
/- what a function hands back -/
def aRes (P : Program) (rs : List ResultVar) (e : Env) (S : Store) : Option (List AV) :=
  match rs with
  | [] => some []
  | .tmp t :: rest => (aRes P rest e S).map (e t :: ·)
  | .cell a t :: rest => match aLoad (szOf P t) S (e a), aRes P rest e S with
    | some v, some vs => some (v :: vs)
    | _, _ => none
def resV : List AV → AV
  | [v] => v
  | vs => .tup vs
def argEnv (args : List AV) : Env := fun t => args.getD t .junk
/-- the end of a call: what is handed back, and the places that stay -/
def Fin (P : Program) (rs : List ResultVar) (N0 : Nat) (v : AV) (S' : Store) (e : Env) (S : Store) : Prop :=
  ∃ e1 S1 vs κ, Weak N0 e S e1 S1 ∧ aRes P rs e1 S1 = some vs ∧ SubOk κ S1 S' ∧ κ.take N0 = List.range N0 ∧ v.ok κ.length = true ∧ (resV vs = v.ren (idx κ) ∨ (resV vs).wk = v.ren (idx κ))
def finQ (P : Program) (rs : List ResultVar) (N0 : Nat) (v : AV) (S' : Store) : AX → Env → Store → Prop
  | .norm => Fin P rs N0 v S'
  | .ret => Fin P rs N0 v S'
  | .exit _ => fun _ _ => False
section
variable {P : Program}
theorem aLoad_ok {w : World} {g : Gh} {S : Store} (hw : WF w g S) {ty : TypeId} {x v : AV} {cx : Value} (hx : Rel w g x cx) (h : aLoad (szOf P ty) S x = some v) : ∃ ad cv, cx = .pointer (some ad) ∧ (loadVar ty ad).run P w = .ok cv w ∧ Rel w g v cv := by
  unfold aLoad at h
  split at h
  · rename_i sz ag l off hs
    split at h
    · rename_i cs hS
      obtain ⟨arr, T, fr, h4, h5, hc, hl, _⟩ := obj_cells hw hS
      cases hx
      obtain ⟨cv, h1, h2⟩ := load_from (P := P) hc (b := g.pl l) (o := 0) (fun j hj => by rw [Nat.zero_add, cell_of_row w (g.pl l) j arr T fr h4]) hs h
      rw [Nat.zero_add] at h1
      exact ⟨_, cv, rfl, h1, h2⟩
    · cases h
  · rename_i sz ag v' off hs
    cases hx with
    | pst _ _ _ b o' cu hA h1 hr' =>
      have hc : CellsRel w g v'.cells ((List.range v'.cells.length).map cu).toArray := by
        refine ⟨by simp, fun u hu => ?_, fun j u z hu hz => ?_⟩
        · simp only [List.mem_map, List.mem_range] at hu
          obtain ⟨j, hj, rfl⟩ := hu
          exact h1 j hj
        · have hj := (List.getElem?_eq_some_iff.1 hu).1
          simp [List.getElem?_range hj] at hz
          rw [← hz]
          exact (hr' j u hu).ofNoid
      obtain ⟨cv, h2, h3⟩ := load_from (P := P) hc (b := b) (o := o') (fun j hj => by
        have hj' : j < v'.cells.length := by simpa using hj
        rw [(hA j hj').2]
        simp [List.getElem?_range hj']) hs h
      exact ⟨_, cv, rfl, h2, h3⟩
  · cases h
def resRun (tmps : Array Value) : ResultVar → Sem Value
  | .tmp t => pure (tmps.getD t undef)
  | .cell a t => do loadVar t (← asAddr (tmps.getD a undef))
theorem aRes_ok {w : World} {g : Gh} {S : Store} {e : Env} {a : Act} (hw : WF w g S) (he : ERel w g e a) : ∀ (rs : List ResultVar) (vs : List AV), aRes P rs e S = some vs →
    ∃ cvs : List Value, (rs.mapM (resRun a.tmps)).run P w = .ok cvs w ∧ cvs.length = vs.length ∧
      ∀ (j : Nat) u v, vs[j]? = some u → cvs[j]? = some v → Rel w g u v
  | [], vs, h => by
    cases h
    exact ⟨[], by simp, rfl, by simp⟩
  | .tmp t :: rest, vs, h => by
    simp only [aRes] at h
    obtain ⟨vs', h1, rfl⟩ := Option.map_eq_some_iff.1 h
    obtain ⟨cvs, h2, h3, h4⟩ := aRes_ok hw he rest vs' h1
    refine ⟨a.tmps.getD t undef :: cvs, by simp only [List.mapM_cons, Sem.run_bind, resRun, Sem.run_pure, Result.andThen_ok, h2], by simp [h3], fun j u v hu hv => ?_⟩
    cases j with
    | zero =>
      simp only [List.getElem?_cons_zero, Option.some.injEq] at hu hv
      rw [← hu, ← hv]; exact he t
    | succ j => exact h4 j u v (by simpa using hu) (by simpa using hv)
  | .cell x t :: rest, vs, h => by
    simp only [aRes] at h
    split at h
    · rename_i v' vs' h0 h1
      cases h
      obtain ⟨cvs, h2, h3, h4⟩ := aRes_ok hw he rest vs' h1
      obtain ⟨ad, cv, h5, h6, h7⟩ := aLoad_ok hw (he x) h0
      refine ⟨cv :: cvs, by simp only [List.mapM_cons, Sem.run_bind, resRun, h5, asAddr, Sem.run_pure, Result.andThen_ok, h6, h2], by simp [h3], fun j u v hu hv => ?_⟩
      cases j with
      | zero => simp at hu hv; rw [← hu, ← hv]; exact h7
      | succ j => exact h4 j u v (by simpa using hu) (by simpa using hv)
    · cases h
theorem results_ok {w : World} {g : Gh} {S : Store} {e : Env} {a : Act} (hw : WF w g S) (he : ERel w g e a) {fn : Func} {vs : List AV} (h : aRes P fn.results.toList e S = some vs) :
    ∃ cv, (results fn a.tmps).run P w = .ok cv w ∧ Rel w g (resV vs) cv := by
  obtain ⟨cvs, h1, h2, h3⟩ := aRes_ok hw he fn.results.toList vs h
  have hrun : (results fn a.tmps).run P w = .ok (if h : cvs.toArray.size = 1 then cvs.toArray[0] else .tuple cvs.toArray) w := by
    have hf : results fn a.tmps = (do let vs ← fn.results.mapM (resRun a.tmps); pure (if h : vs.size = 1 then vs[0] else .tuple vs)) := by
      unfold results
      congr 1
    rw [hf, Sem.run_bind, Array.mapM_eq_mapM_toList, Sem.run_map, h1]
    rfl
  refine ⟨_, hrun, ?_⟩
  match vs, cvs, h2, h3 with
  | [u], [v], _, h3 => exact h3 0 u v rfl rfl
  | [], [], _, _ => exact .tup g [] #[] rfl (by simp)
  | u :: u' :: us, v :: v' :: cs, h2, h3 =>
    have : ¬ (v :: v' :: cs).toArray.size = 1 := by simp
    rw [dif_neg this]
    exact .tup g _ _ (by simpa using h2) (fun j u v hu hv => h3 j u v hu (by simpa using hv))
theorem Evo.sub {w0 w : World} {g0 g : Gh} {κ : List Nat} (h : Evo w0 g0 w g) (hn : κ.Nodup) (hin : ∀ i, i < κ.length → idx κ i < g.nid) (hk : κ.take g0.nid = List.range g0.nid) : Evo w0 g0 w (g.sub κ) := by
  have hlen : g0.nid ≤ κ.length := by
    have := congrArg List.length hk
    rw [List.length_take, List.length_range] at this
    omega
  have hid : ∀ l, l < g0.nid → idx κ l = l := by
    intro l hl
    have : κ[l]? = some l := by
      rw [← List.getElem?_take_of_lt hl, hk, List.getElem?_range hl]
    unfold idx
    rw [List.getD_eq_getElem?_getD, this]
    rfl
  refine ⟨⟨h.cell, h.G, hlen, fun l hl => ?_⟩, h.os, h.tape, h.output, h.size, h.old, fun l b hl hb hlt => ?_, h.Gold⟩
  · have := h.keep l hl
    show g.buf (idx κ l) = _ ∧ ((g.pl (idx κ l) = _ ∧ g.wm (idx κ l) = _ ∧ g.cap (idx κ l) = _) ∨ (_ ∧ _ < g.wm (idx κ l)))
    rw [hid l hl]
    exact this
  · have hb' : g.own (idx κ l) b := hb
    have hl' : l < κ.length := hl
    obtain ⟨h1, h2⟩ := h.own (idx κ l) b (hin l hl') hb' hlt
    have h3 : idx κ (idx κ l) = idx κ l := hid _ h1
    have h4 := idx_inj hn (by omega) hl' h3
    rw [h4] at h1 h2
    exact ⟨h1, h2⟩
theorem SubOk.lt {w : World} {g : Gh} {S S' : Store} {κ : List Nat} (hs : SubOk κ S S') (h : WF w g S) : ∀ i, i < κ.length → idx κ i < g.nid := by
  intro i hi
  have hi' : i < S'.length := by rw [hs.len]; exact hi
  have h2 := (hs.ok i _ (List.getElem?_eq_getElem hi')).2
  rw [h.nid]
  exact (List.getElem?_eq_some_iff.1 h2).1
/-- a contract out of the text -/
theorem AC.enter {f : FuncId} {fn : Func} {c : Code} {args : List AV} {S S' : Store} {v : AV} (pf rf : List FuncId) (hf : P.funcs[f]? = some fn) (hb : fn.body = some c) (hname : fn.name ≠ "runtime.NumGoroutine") (hm : P.follows .mixedOrders = true)
    (hn : args.length ≤ fn.ntmps) (hok : codeOk P pf rf fn.ntmps c = true) (h : AW P pf rf S.length (eraseC c) (finQ P fn.results.toList S.length v S') (argEnv args) S) : AC P f args S v S' := by
  refine ⟨by simp [callable, hf, hb, hname], fun w g cargs hw hargs => ?_⟩
  refine calls_of_wp hf hb ?_
  have hc : Conc fn.ntmps w g (argEnv args) S { tmps := cargs ++ Array.replicate (fn.ntmps - cargs.size) undef, defers := [] } w := by
    refine ⟨by simp [hargs.1]; omega, rfl, g, hw, fun t => ?_, Evo.refl w g⟩
    show Rel w g (args.getD t .junk) ((cargs ++ Array.replicate (fn.ntmps - cargs.size) undef).getD t undef)
    rw [List.getD_eq_getElem?_getD]
    cases ht : args[t]? with
    | none => exact .junk _ _
    | some u =>
      have hlt : t < cargs.size := by rw [hargs.1]; exact (List.getElem?_eq_some_iff.1 ht).1
      have h1 : cargs[t]? = some cargs[t] := Array.getElem?_eq_getElem hlt
      rw [Array.getD_eq_getD_getElem?, Array.getElem?_append_left hlt, h1]
      exact hargs.2 t u _ ht h1
  refine wp_mono (AW_ok hm hw.nid c _ (argEnv args) S _ w hok hc h) ?_
  have fin : ∀ a' w' e1 S1, Conc fn.ntmps w g e1 S1 a' w' → Fin P fn.results.toList S.length v S' e1 S1 → a'.defers = [] ∧ ∃ cv, (results fn a'.tmps).run P w' = .ok cv w' ∧ ∃ cv' g', Ending.returned cv = .returned cv' ∧ WF w' g' S' ∧ Rel w' g' v cv' ∧ Evo w g w' g' := by
    rintro a' w' e0 S0 hc0 ⟨e1, S1, vs, κ, k0, k1, k2, k3, k4, k5⟩
    obtain ⟨_, h2, g1, h3, h4, h5⟩ := k0 fn.ntmps w g a' w' hw.nid hc0
    obtain ⟨cv, r1, r2⟩ := results_ok h3 h4 k1
    refine ⟨h2, cv, r1, cv, g1.sub κ, rfl, h3.sub k2, ?_, h5.sub k2.nodup (k2.lt h3) (by rw [hw.nid]; exact k3)⟩
    rcases k5 with k5 | k5
    · rw [k5] at r2
      exact Rel.unren (un_sub w' g1 κ) r2 k4
    · have r3 := r2.wk
      rw [k5] at r3
      exact Rel.unren (un_sub w' g1 κ) r3 k4
  intro ex a' w' hq
  cases ex with
  | normal => obtain ⟨e1, S1, hc1, h1⟩ := hq; exact fin a' w' e1 S1 hc1 h1
  | ret => obtain ⟨e1, S1, hc1, h1⟩ := hq; exact fin a' w' e1 S1 hc1 h1
  | exit id => obtain ⟨e1, S1, hc1, h1⟩ := hq; exact h1.elim
  | _ => exact hq.elim
end
end Go.Proofs.Ytknbnhmenohacaa.Pe
