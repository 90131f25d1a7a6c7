/- Contracts of functions on plain values, and a contract of a small store used within a larger one. Nothing of the program. -/
import Derived.Test.YtknbnhmenohacaaPeL
namespace Go.Proofs.Ytknbnhmenohacaa.Pe
set_option linter.unusedSectionVars false
set_option linter.unusedVariables false
set_option linter.unusedSimpArgs false
open Go Go.RowKit
variable [Tab]
def callable (P : Program) (f : FuncId) : Bool :=
  match P.funcs[f]? with
  | some fn => fn.name != "runtime.NumGoroutine" && fn.body.isSome
  | none => false
def LRel (w : World) (g : Gh) (args : List AV) (cargs : Array Value) : Prop :=
  cargs.size = args.length ∧ ∀ (j : Nat) u v, args[j]? = some u → cargs[j]? = some v → Rel w g u v
/-- function f, at these plain arguments and places, returns v and leaves S' -/
structure AC (P : Program) (f : FuncId) (args : List AV) (S : Store) (v : AV) (S' : Store) : Prop where
  can : callable P f = true
  run : ∀ (w : World) (g : Gh) (cargs : Array Value), WF w g S → LRel w g args cargs →
    Calls P f cargs w fun r w' => ∃ cv g', r = .returned cv ∧ WF w' g' S' ∧ Rel w' g' v cv ∧ Evo w g w' g'
section
variable {P : Program}
theorem run_callFunc {f : FuncId} (h : callable P f = true) (args : Array Value) (w : World) : (callFunc f args).run P w = .ok (.enter f args) w := by
  unfold callable at h
  split at h
  · rename_i fn hf
    simp only [Bool.and_eq_true, bne_iff_ne, ne_eq] at h
    obtain ⟨h1, h2⟩ := h
    obtain ⟨bd, hb⟩ := Option.isSome_iff_exists.1 h2
    simp [callFunc, run_program, hf, h1, hb]
  · cases h
theorem does_call {o : Oper} {e : Env} {S S' : Store} {v : AV} {c : Call} {fo : Operand} {f : FuncId} {fa ca : List AV} (ho : o.op = .call c) (hc : c.callee = .value fo) (hf : ev e fo = .fn (.func f) fa ca)
    (h : AC P f (fa ++ c.args.toList.map (ev e) ++ ca) S v S') : Does P o e S v S' := by
  intro a w g hw hr K Q hK
  have hfo := hr fo (by rw [ho]; simp [Op.operands, Call.operands, hc])
  rw [hf] at hfo
  generalize hcf : a.eval fo = cf at hfo
  cases hfo with
  | fn _ _ _ _ fav cav hfs hcs hrf hrc =>
    have hargs : LRel w g (fa ++ c.args.toList.map (ev e) ++ ca) (fav ++ c.args.map a.eval ++ cav) := by
      refine ⟨by simp [hfs, hcs], fun j u v hu hv => ?_⟩
      have hv' : (fav.toList ++ c.args.toList.map a.eval ++ cav.toList)[j]? = some v := by
        rw [← hv, ← Array.getElem?_toList]
        simp
      have l1 : fav.toList.length = fa.length := by simpa using hfs
      rw [List.append_assoc, List.getElem?_append] at hu hv'
      rw [l1] at hv'
      split at hu
      · rename_i h1
        rw [if_pos h1] at hv'
        exact hrf j u v hu (by simpa using hv')
      · rename_i h1
        rw [if_neg h1] at hv'
        rw [List.getElem?_append] at hu hv'
        simp only [List.length_map] at hu hv'
        split at hu
        · rename_i h2
          rw [if_pos h2] at hv'
          rw [List.getElem?_map] at hu hv'
          obtain ⟨x, hx, rfl⟩ := Option.map_eq_some_iff.1 hu
          rw [hx] at hv'
          cases hv'
          refine hr x ?_
          rw [ho]
          simp only [Op.operands, Call.operands, Array.toList_append, List.mem_append]
          exact .inr (List.mem_iff_getElem?.2 ⟨_, hx⟩)
        · rename_i h2
          rw [if_neg h2] at hv'
          exact hrc _ u v hu (by simpa using hv')
    have hrun : (execOp a.eval o).run P w = .ok (.enter f (fav ++ c.args.map a.eval ++ cav)) w := by
      unfold execOp
      simp only [ho]
      show Sem.run P (do let d ← resolve a.eval c o.type; invoke d.target d.args) w = _
      simp only [resolve, hc, hcf, Deferred.ofValue, Sem.run_bind, Sem.run_pure, Result.andThen_ok, invoke]
      rw [run_callFunc h.can]
    unfold Oper.wp
    rw [hrun]
    simp only [Oper.upon]
    refine (h.run w g _ hw hargs).mono ?_
    rintro r w' ⟨cv, g', rfl, h1, h2, h3⟩
    exact hK cv w' g' h1 h2 h3
end
def ext (κ : List Nat) (N : Nat) : Nat → Nat := fun i => if i < κ.length then idx κ i else N + (i - κ.length)
def setAll : Store → List Nat → Store → Store
  | T, [], _ => T
  | T, l :: κ, o :: S => setAll (T.set l o) κ S
  | T, _ :: _, [] => T
def after (κ : List Nat) (T S' : Store) : Store := setAll T κ (S'.map (·.ren (ext κ T.length))) ++ (S'.drop κ.length).map (·.ren (ext κ T.length))
theorem setAll_spec : ∀ (κ : List Nat) (T R : Store), κ.Nodup → (∀ l ∈ κ, l < T.length) → κ.length ≤ R.length →
    (setAll T κ R).length = T.length ∧ (∀ i, i < κ.length → (setAll T κ R)[idx κ i]? = R[i]?) ∧ ∀ l, l ∉ κ → (setAll T κ R)[l]? = T[l]?
  | [], T, R, _, _, _ => ⟨by rw [setAll], fun i hi => absurd hi (Nat.not_lt_zero _), fun _ _ => by rw [setAll]⟩
  | l :: κ, T, [], _, _, hl => by simp at hl
  | l :: κ, T, o :: R, hn, hb, hl => by
    obtain ⟨hn1, hn2⟩ := List.nodup_cons.1 hn
    obtain ⟨h1, h2, h3⟩ := setAll_spec κ (T.set l o) R hn2 (fun x hx => by rw [List.length_set]; exact hb x (by simp [hx])) (by simpa using hl)
    refine ⟨by rw [setAll, h1, List.length_set], fun i hi => ?_, fun x hx => ?_⟩
    · cases i with
      | zero =>
        show (setAll (T.set l o) κ R)[l]? = some o
        rw [h3 l hn1, List.getElem?_set_self (hb l (by simp))]
      | succ i => exact h2 i (by simpa using hi)
    · simp only [List.mem_cons, not_or] at hx
      rw [setAll, h3 x hx.2, List.getElem?_set_ne (fun e => hx.1 e.symm)]
section
variable {P : Program}
theorem AC.frame {f : FuncId} {args : List AV} {S S' T : Store} {v : AV} (κ : List Nat) (h : AC P f args S v S') (hs : SubOk κ T S) (ha : args.all (AV.ok κ.length) = true) (hv : v.ok S'.length = true)
    (hS' : ∀ (i : Nat) (o : SObj), S'[i]? = some o → o.ok S'.length = true) : AC P f (args.map (AV.ren (idx κ))) T (v.ren (ext κ T.length)) (after κ T S') := by
  refine ⟨h.can, fun w g cargs hw hargs => ?_⟩
  have hwc := hw.sub hs
  have hlt : ∀ i, i < κ.length → idx κ i < g.nid := by
    intro i hi
    have hi' : i < S.length := by rw [hs.len]; exact hi
    have h2 := (hs.ok i _ (List.getElem?_eq_getElem hi')).2
    rw [hw.nid]
    exact (List.getElem?_eq_some_iff.1 h2).1
  refine (h.run w (g.sub κ) cargs hwc ⟨by rw [hargs.1]; simp, unmap_rel (fun u v hp hr => Rel.unren (un_sub w g κ) hr hp) ha hargs.2⟩).mono ?_
  rintro r w' ⟨cv, gc, rfl, hw', hrv, hevo⟩
  have hnT : g.nid = T.length := hw.nid
  have hnS : gc.nid = S'.length := hw'.nid
  have hκS : κ.length ≤ S'.length := by rw [← hnS]; exact hevo.nid
  have hmem : ∀ l, l ∈ κ → κ.idxOf l < κ.length ∧ idx κ (κ.idxOf l) = l := by
    intro l hl
    have h1 := List.idxOf_lt_length_iff.2 hl
    refine ⟨h1, ?_⟩
    unfold idx
    rw [List.getD_eq_getElem?_getD, List.getElem?_eq_getElem h1]
    simp
  have hidx : ∀ i, i < κ.length → idx κ i ∈ κ ∧ κ.idxOf (idx κ i) = i := by
    intro i hi
    have hm : idx κ i ∈ κ := by
      unfold idx
      rw [List.getD_eq_getElem?_getD, List.getElem?_eq_getElem hi]
      exact List.getElem_mem hi
    exact ⟨hm, idx_inj hs.nodup (hmem _ hm).1 hi (hmem _ hm).2⟩
  -- which number of the call a number of the caller is
  let ι : Nat → Option Nat := fun l => if l < T.length then (if l ∈ κ then some (κ.idxOf l) else none) else some (l - T.length + κ.length)
  have ι1 : ∀ i, i < κ.length → ι (idx κ i) = some i := fun i hi => by
    have h1 := hlt i hi
    show (if _ then _ else _) = _
    rw [if_pos (by omega), if_pos (hidx i hi).1, (hidx i hi).2]
  have ι2 : ∀ i, κ.length ≤ i → ι (T.length + (i - κ.length)) = some i := fun i hi => by
    show (if _ then _ else _) = _
    rw [if_neg (by omega)]
    congr 1
    omega
  have ιe : ∀ i, ι (ext κ T.length i) = some i := fun i => by
    unfold ext
    split
    · exact ι1 i (by assumption)
    · exact ι2 i (by omega)
  have ι3 : ∀ l i, ι l = some i → l = ext κ T.length i := fun l i hl => by
    have hl' : (if l < T.length then (if l ∈ κ then some (κ.idxOf l) else none) else some (l - T.length + κ.length)) = some i := hl
    split at hl'
    · split at hl'
      · rename_i hm
        cases hl'
        unfold ext
        rw [if_pos (hmem l hm).1, (hmem l hm).2]
      · cases hl'
    · cases hl'
      unfold ext
      rw [if_neg (by omega)]
      omega
  have ι4 : ∀ l, ι l = none → l < T.length ∧ l ∉ κ := fun l hl => by
    have hl' : (if l < T.length then (if l ∈ κ then some (κ.idxOf l) else none) else some (l - T.length + κ.length)) = none := hl
    split at hl'
    · split at hl'
      · cases hl'
      · exact ⟨by assumption, by assumption⟩
    · cases hl'
  let g' : Gh := { G := gc.G, pl := fun l => match ι l with | some i => gc.pl i | none => g.pl l, own := fun l => match ι l with | some i => gc.own i | none => g.own l, nid := T.length + (S'.length - κ.length), buf := fun l => match ι l with | some i => gc.buf i | none => g.buf l, wm := fun l => match ι l with | some i => gc.wm i | none => g.wm l, cap := fun l => match ι l with | some i => gc.cap i | none => g.cap l }
  have e_pl : ∀ l i, ι l = some i → g'.pl l = gc.pl i := fun l i hl => by show (match ι l with | some i => gc.pl i | none => g.pl l) = _; rw [hl]
  have e_own : ∀ l i, ι l = some i → g'.own l = gc.own i := fun l i hl => by show (match ι l with | some i => gc.own i | none => g.own l) = _; rw [hl]
  have e_buf : ∀ l i, ι l = some i → g'.buf l = gc.buf i := fun l i hl => by show (match ι l with | some i => gc.buf i | none => g.buf l) = _; rw [hl]
  have e_wm : ∀ l i, ι l = some i → g'.wm l = gc.wm i := fun l i hl => by show (match ι l with | some i => gc.wm i | none => g.wm l) = _; rw [hl]
  have e_cap : ∀ l i, ι l = some i → g'.cap l = gc.cap i := fun l i hl => by show (match ι l with | some i => gc.cap i | none => g.cap l) = _; rw [hl]
  have n_pl : ∀ l, ι l = none → g'.pl l = g.pl l := fun l hl => by show (match ι l with | some i => gc.pl i | none => g.pl l) = _; rw [hl]
  have n_own : ∀ l, ι l = none → g'.own l = g.own l := fun l hl => by show (match ι l with | some i => gc.own i | none => g.own l) = _; rw [hl]
  have n_buf : ∀ l, ι l = none → g'.buf l = g.buf l := fun l hl => by show (match ι l with | some i => gc.buf i | none => g.buf l) = _; rw [hl]
  have n_wm : ∀ l, ι l = none → g'.wm l = g.wm l := fun l hl => by show (match ι l with | some i => gc.wm i | none => g.wm l) = _; rw [hl]
  have n_cap : ∀ l, ι l = none → g'.cap l = g.cap l := fun l hl => by show (match ι l with | some i => gc.cap i | none => g.cap l) = _; rw [hl]
  have hext_lt : ∀ i, i < S'.length → ext κ T.length i < g'.nid := fun i hi => by
    show _ < T.length + (S'.length - κ.length)
    unfold ext
    split
    · rename_i h1; have := hlt i h1; omega
    · omega
  have hι_lt : ∀ l i, l < g'.nid → ι l = some i → i < gc.nid := fun l i hl hi => by
    have hl' : l < T.length + (S'.length - κ.length) := hl
    have he := ι3 l i hi
    rw [hnS]
    unfold ext at he
    split at he
    · omega
    · omega
  have hren : RenOk w' gc w' g' (ext κ T.length) S'.length := ⟨⟨fun _ _ _ _ h => h, fun _ _ _ h _ => h, Nat.le_refl _, fun l hl => absurd hl (Nat.not_lt_zero _)⟩, fun l hl _ =>
    ⟨hext_lt l hl, e_pl _ _ (ιe l), e_buf _ _ (ιe l), e_wm _ _ (ιe l), e_cap _ _ (ιe l)⟩⟩
  -- what belongs to others is not the call's
  have hother : ∀ l b, ι l = none → g.own l b → ∀ i, i < (g.sub κ).nid → ¬ (g.sub κ).own i b := fun l b hl hb i hi hb' => by
    have h4 := ι4 l hl
    have := hw.disj l (idx κ i) b (by omega) (hlt i hi) hb hb'
    exact h4.2 (by rw [this]; exact (hidx i hi).1)
  have hle : Le w g w' g' := by
    refine ⟨fun b o v hb hv => hevo.cell b o v hb hv, fun b o v hb hv => hevo.G b o v hb hv, by show g.nid ≤ T.length + _; omega, fun l hl => ?_⟩
    cases hι : ι l with
    | none => exact ⟨n_buf l hι, .inl ⟨n_pl l hι, n_wm l hι, n_cap l hι⟩⟩
    | some i =>
      have he := ι3 l i hι
      have hi : i < κ.length := by
        unfold ext at he
        split at he
        · assumption
        · omega
      have he' : l = idx κ i := by unfold ext at he; rw [if_pos hi] at he; exact he
      obtain ⟨h1, h2⟩ := hevo.keep i hi
      rw [e_buf l i hι, e_pl l i hι, e_wm l i hι, e_cap l i hι, he']
      exact ⟨h1, h2⟩
  have hown_new : ∀ l b, l < g'.nid → g'.own l b → b < w.heap.size → l < g.nid ∧ g.own l b := fun l b hl hb hlt' => by
    cases hι : ι l with
    | none =>
      rw [n_own l hι] at hb
      have := ι4 l hι
      exact ⟨by omega, hb⟩
    | some i =>
      rw [e_own l i hι] at hb
      obtain ⟨h1, h2⟩ := hevo.own i b (hι_lt l i hl hι) hb hlt'
      have h1 : i < κ.length := h1
      have he := ι3 l i hι
      unfold ext at he
      rw [if_pos h1] at he
      rw [he]
      exact ⟨hlt i h1, h2⟩
  have hsub_un : ∀ b, (∀ l, l < g.nid → ¬ g.own l b) → ∀ i, i < (g.sub κ).nid → ¬ (g.sub κ).own i b := fun b hb i hi h => hb (idx κ i) (hlt i hi) h
  refine ⟨cv, g', rfl, ⟨?_, fun l o hl => ?_, fun l l' b hl hl' hb hb' => ?_, fun l b hl hb => ?_, hw.tab.le hle⟩, hrv.ren hren hv, ⟨hle, hevo.os, hevo.tape, hevo.output, hevo.size, fun b hb hn => hevo.old b hb (hsub_un b hn), hown_new, fun b hb hn => hevo.Gold b hb (hsub_un b hn)⟩⟩
  · obtain ⟨h1, _, _⟩ := setAll_spec κ T (S'.map (·.ren (ext κ T.length))) hs.nodup (fun l hl => by have := hlt _ (hmem l hl).1; rw [(hmem l hl).2] at this; omega) (by simpa using hκS)
    show T.length + _ = _
    unfold after
    rw [List.length_append, h1, List.length_map, List.length_drop]
  · obtain ⟨h1, h2, h3⟩ := setAll_spec κ T (S'.map (·.ren (ext κ T.length))) hs.nodup (fun l hl => by have := hlt _ (hmem l hl).1; rw [(hmem l hl).2] at this; omega) (by simpa using hκS)
    have hS : ∀ i o, ι l = some i → (S'.map (·.ren (ext κ T.length)))[i]? = some o → ObjOk w' g' l o := by
      intro i o hι ho
      rw [List.getElem?_map] at ho
      obtain ⟨o', ho', rfl⟩ := Option.map_eq_some_iff.1 ho
      have hob := hw'.obj i o' ho'
      have hok := hS' i o' ho'
      cases o' with
      | cells cs =>
        obtain ⟨a1, a2, a3, arr, TT, fr, a4, a5, a6, a7, a8⟩ := hob
        refine ⟨by rw [e_buf l i hι]; exact a1, by rw [e_own l i hι, e_pl l i hι]; exact a2, by rw [e_pl l i hι]; exact a3, arr, TT, fr, by rw [e_pl l i hι]; exact a4, a5, by simpa using a6, a7, ?_⟩
        exact map_rel (fun u v hp hr => hr.r1 hren hp) hok a8
      | buf n e sz =>
        obtain ⟨a1, a2, a3⟩ := hob
        refine ⟨by rw [e_buf l i hι]; exact a1, by rw [e_wm l i hι]; exact a2, ?_⟩
        rw [e_own l i hι, e_pl l i hι, e_cap l i hι]
        exact a3
      | ext X =>
        obtain ⟨a1, a2, a3, a4⟩ := hob
        refine ⟨by rw [e_buf l i hι]; exact a1, by rw [e_own l i hι, e_pl l i hι]; exact a2, ?_, ?_⟩
        · rw [e_own l i hι]; exact a3
        · rw [e_own l i hι, e_pl l i hι]; exact a4
      | map es =>
        obtain ⟨a1, a2, a3, me, clock, a4, a5, a6, a7, a8⟩ := hob
        refine ⟨by rw [e_buf l i hι]; exact a1, by rw [e_own l i hι, e_pl l i hι]; exact a2, by rw [e_pl l i hι]; exact a3, me, clock, by rw [e_pl l i hι]; exact a4, by simpa using a5, a6, a7, fun j u x hu hx => ?_⟩
        rw [List.getElem?_map] at hu
        obtain ⟨u', hu', rfl⟩ := Option.map_eq_some_iff.1 hu
        have hp := List.all_eq_true.1 hok u' (List.mem_of_getElem? hu')
        simp only [Bool.and_eq_true] at hp
        have := a8 j u' x hu' hx
        exact ⟨this.1.r1 hren hp.1, this.2.r2 hren hp.2⟩
      | siter s pos =>
        obtain ⟨a1, a2, a3, a4⟩ := hob
        exact ⟨by rw [e_buf l i hι]; exact a1, by rw [e_own l i hι, e_pl l i hι]; exact a2, by rw [e_pl l i hι]; exact a3, by rw [e_pl l i hι]; exact a4⟩
      | dead => trivial
    unfold after at hl
    by_cases hlT : l < T.length
    · rw [List.getElem?_append_left (by rw [h1]; exact hlT)] at hl
      by_cases hm : l ∈ κ
      · have h5 := hmem l hm
        have := h2 _ h5.1
        rw [h5.2, hl] at this
        have hι : ι l = some (κ.idxOf l) := by have := ι1 _ h5.1; rw [h5.2] at this; exact this
        exact hS _ o hι this.symm
      · rw [h3 l hm] at hl
        have hι : ι l = none := by show (if _ then _ else _) = _; rw [if_pos hlT, if_neg hm]
        exact (hw.obj l o hl).keep hle (n_pl l hι) (n_buf l hι) (n_wm l hι) (n_cap l hι) (n_own l hι) (fun b hb => hevo.Gold b (hw.lt l b (by omega) hb) (hother l b hι hb)) (fun b hb => hevo.old b (hw.lt l b (by omega) hb) (hother l b hι hb))
    · rw [List.getElem?_append_right (by rw [h1]; omega), h1, List.getElem?_map, List.getElem?_drop] at hl
      obtain ⟨o', ho', rfl⟩ := Option.map_eq_some_iff.1 hl
      have hι : ι l = some (κ.length + (l - T.length)) := by
        have := ι2 (κ.length + (l - T.length)) (by omega)
        rw [show T.length + (κ.length + (l - T.length) - κ.length) = l from by omega] at this
        exact this
      exact hS _ _ hι (by rw [List.getElem?_map, ho']; rfl)
  · cases hι : ι l with
    | none =>
      have h4 := ι4 l hι
      have hb1 := hb
      rw [n_own l hι] at hb1
      cases hι' : ι l' with
      | none =>
        have h4' := ι4 l' hι'
        rw [n_own l' hι'] at hb'
        exact hw.disj l l' b (by omega) (by omega) hb1 hb'
      | some j =>
        have := hown_new l' b hl' hb' (hw.lt l b (by omega) hb1)
        exact hw.disj l l' b (by omega) this.1 hb1 this.2
    | some i =>
      cases hι' : ι l' with
      | none =>
        have h4' := ι4 l' hι'
        rw [n_own l' hι'] at hb'
        have := hown_new l b hl hb (hw.lt l' b (by omega) hb')
        exact hw.disj l l' b this.1 (by omega) this.2 hb'
      | some j =>
        rw [e_own l i hι] at hb
        rw [e_own l' j hι'] at hb'
        have := hw'.disj i j b (hι_lt l i hl hι) (hι_lt l' j hl' hι') hb hb'
        rw [ι3 l i hι, ι3 l' j hι', this]
  · cases hι : ι l with
    | none =>
      rw [n_own l hι] at hb
      have := hw.lt l b (by have := ι4 l hι; omega) hb
      have := hevo.size
      omega
    | some i =>
      rw [e_own l i hι] at hb
      exact hw'.lt i b (hι_lt l i hl hι) hb
end
end Go.Proofs.Ytknbnhmenohacaa.Pe
