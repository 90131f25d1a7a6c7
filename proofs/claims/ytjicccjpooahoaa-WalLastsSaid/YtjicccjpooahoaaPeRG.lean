/- A round of a range over a function, on plain values: a call of yield. Nothing of the program. -/
import Derived.Test.YtjicccjpooahoaaPeW5
set_option linter.unusedSectionVars false
set_option linter.unusedVariables false
set_option linter.unusedSimpArgs false
namespace Go.Proofs.Ytjicccjpooahoaa.Pe
open Go Go.RowKit
variable [Tab]
def putE (e : Env) (ps : List Tmp) (vs : List AV) : Env := (ps.zip vs).foldl (fun e p => upd e p.1 p.2) e
theorem argEnv_envL {N t : Nat} (e : Env) (h : t < N) : argEnv (envL N e) t = e t := by
 simp [argEnv, envL, h]
theorem putE_nil (e : Env) (vs : List AV) : putE e [] vs = e := by simp [putE]
theorem putE_cons (e : Env) (p : Tmp) (ps : List Tmp) (v : AV) (vs : List AV) : putE e (p :: ps) (v :: vs) = putE (upd e p v) ps vs := rfl
theorem putE_rel {w : World} {g : Gh} : ∀ (q : List Tmp) (vs : List AV) (cs : List Value) (e : Env) (a : Act), vs.length = q.length → cs.length = q.length → (∀ (j : Nat) u x, vs[j]? = some u → cs[j]? = some x → Rel w g u x) → (∀ p ∈ q, p < a.tmps.size) → ERel w g e a →
  ERel w g (putE e q vs) { a with tmps := (q.zip cs).foldl (fun t p => t.setIfInBounds p.1 p.2) a.tmps } ∧ ((q.zip cs).foldl (fun t p => t.setIfInBounds p.1 p.2) a.tmps).size = a.tmps.size
 | [], vs, cs, e, a, _, _, _, _, he => ⟨by rw [putE_nil]; exact he, rfl⟩
 | p :: q, [], cs, e, a, h, _, _, _, _ => by simp at h
 | p :: q, v :: vs, [], e, a, _, h, _, _, _ => by simp at h
 | p :: q, v :: vs, c :: cs, e, a, h1, h2, h3, h4, he => by
  have hp : ERel w g (Pe.put e (some p) v) (a.put (some p) c) := he.put (fun x hx => by cases hx; exact h4 p (by simp)) (h3 0 v c rfl rfl)
  have := putE_rel q vs cs (upd e p v) (a.put (some p) c) (by simpa using h1) (by simpa using h2) (fun j u x hu hx => h3 (j + 1) u x (by simpa using hu) (by simpa using hx)) (fun x hx => by simpa [Act.put] using h4 x (by simp [hx])) hp
  refine ⟨this.1, ?_⟩
  have h5 := this.2
  simp only [Act.put, Array.size_setIfInBounds] at h5
  exact h5
section
variable {P : Program} {pf rf : List FuncId}
def bdyQ (N0 l : Nat) (o : LoopState → SObj) (S' : Store) : AX → Env → Store → Prop
 | .norm => fun e S => ∃ e1 S1 κ, Weak N0 e S e1 S1 ∧ S1[l]? = some (o .busy) ∧ SubOk κ (S1.set l (o .ready)) S' ∧ κ.take N0 = List.range N0
 | _ => fun _ _ => False
def asnQ (l : Nat) (o : LoopState → SObj) (B : Env → Store → Prop) : AX → Env → Store → Prop
 | .norm => fun e S => S[l]? = some (o .ready) ∧ B e (S.set l (o .busy))
 | _ => fun _ _ => False
theorem loop_turn {w : World} {g : Gh} {S : Store} {l b D : Nat} {fn : FuncId} {es : List AV} {ps : Array Tmp} {asn bdy : Code} {st : LoopState} (hw : WF w g S) (hl : S[l]? = some (.loop b D fn es ps asn bdy st)) :
  ∃ tm, w.heap[b]? = some (.loop { state := st, pending := none, fn, tmps := tm, params := ps, assign := asn, body := bdy, defers := D }) ∧ tm.size = es.length ∧ (∀ (j : Nat) u x, es[j]? = some u → tm[j]? = some x → Rel w g u x) ∧
   ∀ st', WF (w.putObj b (.loop { state := st', pending := none, fn, tmps := tm, params := ps, assign := asn, body := bdy, defers := D })) g (S.set l (.loop b D fn es ps asn bdy st')) ∧
    Evo w g (w.putObj b (.loop { state := st', pending := none, fn, tmps := tm, params := ps, assign := asn, body := bdy, defers := D })) g := by
 obtain ⟨b1, b2, b3, rfl, tm, b5, b6, b7⟩ := hw.obj _ _ hl
 refine ⟨tm, b5, b6, b7, fun st' => ?_⟩
 refine hw.put (o := .loop (g.pl l) D fn es ps asn bdy st') (List.getElem?_eq_some_iff.1 hl).1 b2 b3 ?_
 have hle := Le.setObj (w := w) b3 (.loop { state := st', pending := none, fn, tmps := tm, params := ps, assign := asn, body := bdy, defers := D })
 have hlt := (Array.getElem?_eq_some_iff.1 b5).1
 exact ⟨b1, b2, b3, rfl, tm, by simp [hlt], b6, fun j u x hu hx => (b7 j u x hu hx).le hle⟩
theorem AYB.of_wp {b D : Nat} {fn : FuncId} {es args : List AV} {ps : Array Tmp} {asn bdy : Code} {S S' : Store} (pf rf : List FuncId) (l : Nat) (hl : S[l]? = some (.loop b D fn es ps asn bdy .ready)) (hlen : args.length = ps.size) (hps : ∀ p ∈ ps.toList, p < es.length)
  (hm : P.follows .mixedOrders = true) (hoa : codeOk P pf rf es.length asn = true) (hra : noRF asn = true) (B : Env → Store → Prop)
  (hB : ∀ (w0 : World) (g0 : Gh) (e : Env) (T : Store) (a : Act) (w : World), g0.nid = S.length → Conc es.length w0 g0 e T a w → B e T → bdy.wpIn (wR (some b)) 0 P (toQ es.length w0 g0 (bdyQ S.length l (.loop b D fn es ps asn bdy) S')) a w)
  (h : AW P pf rf S.length (eraseC asn) (asnQ l (.loop b D fn es ps asn bdy) B) (putE (argEnv es) ps.toList args) S) : AYB P b args S (.bo true) S' := by
 intro w g cargs hw hargs
 obtain ⟨tm, b5, b6, b7, _⟩ := loop_turn hw hl
 have hsz : cargs.size = ps.size := by rw [hargs.1, hlen]
 have hfold : (ps.zip cargs).foldl (fun tmps (t, a) => tmps.setIfInBounds t a) tm = (ps.toList.zip cargs.toList).foldl (fun t p => t.setIfInBounds p.1 p.2) tm := by
  rw [← Array.foldl_toList, Array.toList_zip]
 refine ⟨fn, _, asn, bdy, run_yield b5 hsz, ?_⟩
 have hE0 : ERel w g (argEnv es) { tmps := tm, defers := [] } := fun t => by
  show Rel w g (es.getD t .junk) (tm.getD t undef)
  rw [List.getD_eq_getElem?_getD]
  cases ht : es[t]? with
  | none => exact .junk _ _
  | some u =>
   have hlt : t < tm.size := by rw [b6]; exact (List.getElem?_eq_some_iff.1 ht).1
   have h1 : tm[t]? = some tm[t] := Array.getElem?_eq_getElem hlt
   rw [Array.getD_eq_getD_getElem?, h1]
   exact b7 t u _ ht h1
 obtain ⟨hE1, hsz1⟩ := putE_rel ps.toList args cargs.toList (argEnv es) { tmps := tm, defers := [] } (by simpa using hlen) (by simpa using hsz) (fun j u x hu hx => hargs.2 j u x hu (by simpa using hx)) (fun p hp => by show p < tm.size; rw [b6]; exact hps p hp) hE0
 refine roundIn_of_wpIn (F := Fence.wide) (n := 0) trivial ?_
 simp only at hE1 hsz1
 rw [← hfold] at hE1 hsz1
 have hc : Conc es.length w g (putE (argEnv es) ps.toList args) S { tmps := (ps.zip cargs).foldl (fun tmps (t, a) => tmps.setIfInBounds t a) tm, defers := [] } w := ⟨hsz1.trans b6, trivial, g, hw, hE1, .none (Evo.refl w g)⟩
 have ha := AW_ok (some b) (.inr hra) hm hw.nid _ _ S _ w hoa hc h
 refine Go.wpIn_mono (F := Fence.wide.inRound b) ha ?_
 intro ex a1 w1 hq
 cases ex with
 | normal =>
  obtain ⟨e1, S1, ⟨c1, _, g1, c2, c3, c4⟩, hl1, hbd⟩ := hq
  obtain ⟨tm1, d5, _, _, d8⟩ := loop_turn c2 hl1
  obtain ⟨d9, d10⟩ := d8 .busy
  refine ⟨_, run_beginRound d5 rfl, ?_⟩
  have hc1 : Conc es.length w g e1 (S1.set l (.loop b D fn es ps asn bdy .busy)) a1 (w1.putObj b (.loop { state := .busy, pending := none, fn, tmps := tm1, params := ps, assign := asn, body := bdy, defers := D })) := ⟨c1, trivial, g1, d9, fun t => (c3 t).le d10.toLe, c4.trans d10⟩
  have hb := hB _ _ _ _ _ _ hw.nid hc1 hbd
  refine Go.wpIn_mono (F := Fence.wide.inRound b) hb ?_
  intro ex2 a2 w2 hq2
  cases ex2 with
  | normal =>
   obtain ⟨e2, S2, hc2, e3, S3, κ, k0, k1, k2, k3⟩ := hq2
   obtain ⟨_, _, g3, m1, m2, m3⟩ := k0 es.length w g a2 w2 hw.nid hc2
   obtain ⟨tm3, n1, _, _, n4⟩ := loop_turn m1 k1
   obtain ⟨n5, n6⟩ := n4 .ready
   refine ⟨_, _, run_endRound none n1, .bool true, g3.sub κ, rfl, n5.sub k2, .bo _ _, ?_⟩
   exact (m3.toEvo.trans n6).sub k2.nodup (k2.lt n5) (by rw [hw.nid]; exact k3)
  | exit i => obtain ⟨_, _, _, q⟩ := hq2; exact q.elim
  | ret => obtain ⟨_, _, _, q⟩ := hq2; exact q.elim
  | _ => exact hq2.elim
 | exit i => obtain ⟨_, _, _, q⟩ := hq; exact q.elim
 | ret => obtain ⟨_, _, _, q⟩ := hq; exact q.elim
 | _ => exact hq.elim
theorem AYB.enter {b D : Nat} {fn : FuncId} {es args : List AV} {ps : Array Tmp} {asn bdy : Code} {S S' : Store} (pf rf : List FuncId) (l : Nat) (hl : S[l]? = some (.loop b D fn es ps asn bdy .ready)) (hlen : args.length = ps.size) (hps : ∀ p ∈ ps.toList, p < es.length)
  (hm : P.follows .mixedOrders = true) (hoa : codeOk P pf rf es.length asn = true) (hob : codeOk P pf rf es.length bdy = true) (hra : noRF asn = true) (hrb : noRF bdy = true)
  (h : AW P pf rf S.length (eraseC asn) (asnQ l (.loop b D fn es ps asn bdy) (AW P pf rf S.length (eraseC bdy) (bdyQ S.length l (.loop b D fn es ps asn bdy) S'))) (putE (argEnv es) ps.toList args) S) : AYB P b args S (.bo true) S' :=
 AYB.of_wp pf rf l hl hlen hps hm hoa hra _ (fun w0 g0 e T a w hn hc hb => AW_ok (some b) (.inr hrb) hm hn _ _ _ _ _ hob hc hb) h
end
end Go.Proofs.Ytjicccjpooahoaa.Pe
