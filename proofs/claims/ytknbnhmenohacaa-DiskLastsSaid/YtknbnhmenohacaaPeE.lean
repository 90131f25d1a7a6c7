/- 'aval': what an operation that leaves memory alone yields, on plain values. Nothing of the program. -/
import Derived.Test.YtknbnhmenohacaaPeD
namespace Go.Proofs.Ytknbnhmenohacaa.Pe
set_option linter.unusedSectionVars false
set_option linter.unusedVariables false
set_option linter.unusedSimpArgs false
open Go Go.RowKit
def aNil (x : AV) : Option AV :=
  match x with
  | .ptr l o => some (.ptr l o)
  | .pst v o => some (.pst v o)
  | .fn (.method _) _ _ => none
  | .fn f a b => some (.fn f a b)
  | _ => none
def aFldAddr (f : Option (Nat × Nat × Bool)) (x : AV) : Option AV :=
  match f, x with
  | some (o, sz, _), .ptr l off => if sz = 0 then none else some (.ptr l (off + o))
  | some (o, sz, _), .pst v off => if sz = 0 then none else some (.pst v (off + o))
  | _, _ => none
def aFld (f : Option (Nat × Nat × Bool)) (x : AV) : Option AV :=
  match f, x with
  | some (o, sz, ag), .agg cs => apart cs o sz ag
  | _, _ => none
def aIdxAddr (P : Program) (t : TypeId) (x i : AV) : Option AV :=
  match x, i with
  | .sl _ es, .it _ n => match sleOf P t with
    | some (_, sz, _) => if 0 ≤ n then (match es[n.toNat]? with | some v => if allSz sz es = true then some (.pst v 0) else none | none => none) else none
    | none => none
  | .ptr l off, .it _ n => match areOf P t with
    | some (len, sz, _) => if 0 ≤ n ∧ n < len then some (.ptr l (off + n.toNat * sz)) else none
    | none => none
  | .pst v off, .it _ n => match areOf P t with
    | some (len, sz, _) => if 0 ≤ n ∧ n < len then some (.pst v (off + n.toNat * sz)) else none
    | none => none
  | .ws l off m _, .it _ n => match sleOf P t with
    | some (_, sz, _) => if 0 ≤ n ∧ n < m then some (.ptr l (off + n.toNat * sz)) else none
    | none => none
  | _, _ => none
def aIdx (P : Program) (t : TypeId) (x i : AV) : Option AV :=
  match x, i with
  | .st l, .it _ n => if kdOf P t = .str ∧ 0 ≤ n then (l[n.toNat]?).map u8 else none
  | .agg cs, .it _ n => match areOf P t with
    | some (len, sz, ag) => if 0 ≤ n ∧ n < len then apart cs (n.toNat * sz) sz ag else none
    | none => none
  | _, _ => none
def aBui (P : Program) (b : Builtin) (ts : Array TypeId) (args : List AV) : Option AV :=
  match b, args with
  | .len, [.st l] => match ts[0]? with
    | some t => if kdOf P t = .str then some (.it .i64 l.length) else none
    | none => none
  | .len, [.sl _ es] => match ts[0]? with
    | some t => match sleOf P t with
      | some _ => some (.it .i64 es.length)
      | none => none
    | none => none
  | .len, [.ws _ _ n _] => match ts[0]? with
    | some t => match sleOf P t with
      | some _ => some (.it .i64 n)
      | none => none
    | none => none
  | .min, [.it k a, .it _ b] => some (.it k (if b < a then b else a))
  | .max, [.it k a, .it _ b] => some (.it k (if b > a then b else a))
  | _, _ => none
def aval (P : Program) (e : Env) : Op → Option AV
  | .move x => some (ev e x)
  | .assign x => some (ev e x)
  | .pick c a b => match ev e c with
    | .bo t => some (if t then ev e a else ev e b)
    | _ => none
  | .nilCheck x => aNil (ev e x)
  | .binOp op t x y _ => aBin P op t (ev e x) (ev e y)
  | .unOp op _ x => aUn op (ev e x)
  | .convert s d x => aConv P s d (ev e x)
  | .makeFunc f a b => some (.fn f (a.toList.map (ev e)) (b.toList.map (ev e)))
  | .slice t x lo hi mx => aSlice P t (ev e x) (lo.map (ev e)) (hi.map (ev e)) (mx.map (ev e))
  | .fieldAddr t x f => aFldAddr (fldOf P t f) (ev e x)
  | .field t x f => aFld (fldOf P t f) (ev e x)
  | .indexAddr t x i => aIdxAddr P t (ev e x) (ev e i)
  | .index t x i => aIdx P t (ev e x) (ev e i)
  | .extract t i => match ev e t with
    | .tup vs => vs[i]?
    | _ => none
  | .build t parts => match strOf P t with
    | some (pl, z) => (aFill pl z (parts.toList.map fun p => (p.1, ev e p.2))).map .agg
    | none => none
  | .call c => match c.callee with
    | .builtin b => aBui P b c.argTypes (c.args.toList.map (ev e))
    | _ => none
  | _ => none
section
variable {P : Program} {w : World} {g : Gh}
def NilOk : Value → Prop
  | .pointer none => False
  | .nilIface => False
  | .nilFunc => False
  | .func (.method _) _ _ => False
  | _ => True
theorem aNil_ok {x v : AV} {cx : Value} (h : aNil x = some v) (hx : Rel w g x cx) : v = x ∧ NilOk cx := by
  unfold aNil at h
  split at h
  · cases h; cases hx; exact ⟨rfl, trivial⟩
  · cases h; cases hx; exact ⟨rfl, trivial⟩
  · cases h
  · rename_i f a b hne
    cases h
    cases hx with
    | fn _ _ _ _ fa ca hf hc hrf hrc =>
      refine ⟨rfl, ?_⟩
      cases f with
      | method nm => exact (hne _ rfl).elim
      | _ => trivial
  · cases h
theorem map_one {α β : Type} {f : α → β} {l : List α} {b : β} (h : l.map f = [b]) : ∃ x, l = [x] ∧ f x = b := by
  match l, h with
  | [x], h => exact ⟨x, rfl, by simpa using h⟩
theorem map_two {α β : Type} {f : α → β} {l : List α} {b c : β} (h : l.map f = [b, c]) : ∃ x y, l = [x, y] ∧ f x = b ∧ f y = c := by
  match l, h with
  | [x, y], h => exact ⟨x, y, rfl, by simpa using h⟩
theorem add_lit' (b o n : Nat) : (⟨b, o, none⟩ : Addr).add n = ⟨b, o + n, none⟩ := Addr.add_lit b o n
theorem aFldAddr_ok {t f : Nat} {x v : AV} {cx : Value} (h : aFldAddr (fldOf P t f) x = some v) (hx : Rel w g x cx) : ∃ cv, (Instr.fieldAt t cx f).run P w = .ok cv w ∧ Rel w g v cv := by
  unfold aFldAddr at h
  split at h
  · rename_i o sz ag l off hf
    obtain ⟨fs, fd, h1, h2, h3, h4⟩ := fldOf_spec hf
    cases hx
    rename_i hl hb
    split at h
    · cases h
    · rename_i h0
      cases h
      refine ⟨_, ?_, .ptr g l (off + o) hl hb⟩
      simp [Instr.fieldAt, run_underlying h1, h2, Instr.sureAddr, fieldPlace, run_sizeOf h4, h0, add_lit', h3]
  · rename_i o sz ag x' off hf
    obtain ⟨fs, fd, h1, h2, h3, h4⟩ := fldOf_spec hf
    cases hx with
    | pst _ _ _ b o' cu hA h1' hr =>
      split at h
      · cases h
      · rename_i h0
        cases h
        refine ⟨_, ?_, .pst g x' (off + o) b o' cu hA h1' hr⟩
        simp [Instr.fieldAt, run_underlying h1, h2, Instr.sureAddr, fieldPlace, run_sizeOf h4, h0, add_lit', h3, Nat.add_assoc]
  · cases h
theorem aFld_ok {t f : Nat} {x v : AV} {cx : Value} (h : aFld (fldOf P t f) x = some v) (hx : Rel w g x cx) : ∃ cv, (Instr.field t cx f).run P w = .ok cv w ∧ Rel w g v cv := by
  unfold aFld at h
  split at h
  · rename_i o sz ag cs hf
    obtain ⟨fs, fd, h1, h2, h3, h4⟩ := fldOf_spec hf
    cases hx with | agg _ _ arr hn h1' hr =>
    obtain ⟨cv, hcv, hrel⟩ := apart_ok hn h1' hr h4 h
    refine ⟨cv, ?_, hrel⟩
    simp [Instr.field, run_underlying h1, h2, asAgg, h3, hcv]
  · cases h
theorem flat_at {sz : Nat} {es : List AV} (h : ∀ e ∈ es, e.cells.length = sz) {i : Nat} {v : AV} (hv : es[i]? = some v) {j : Nat} {u : AV} (hu : v.cells[j]? = some u) : (flat es)[i * sz + j]? = some u := by
  have h1 := flat_drop h i
  have hi := (List.getElem?_eq_some_iff.1 hv).1
  rw [← List.getElem?_drop, ← h1]
  have : es.drop i = v :: es.drop (i + 1) := by
    rw [List.drop_eq_getElem_cons hi]
    rw [(List.getElem?_eq_some_iff.1 hv).2]
  rw [this]
  simp only [flat, List.flatMap_cons]
  rw [List.getElem?_append_left (List.getElem?_eq_some_iff.1 hu).1]
  exact hu
theorem aIdxAddr_ok {t : TypeId} {x i v : AV} {cx ci : Value} (h : aIdxAddr P t x i = some v) (hx : Rel w g x cx) (hi : Rel w g i ci) : ∃ cv, (Instr.indexAt t cx ci).run P w = .ok cv w ∧ Rel w g v cv := by
  unfold aIdxAddr at h
  split at h
  · rename_i m es k n
    split at h
    · rename_i e sz ag hs
      obtain ⟨hu, hse⟩ := sleOf_spec hs
      split at h
      · rename_i h0
        split at h
        · rename_i v' hv
          split at h
          · rename_i hall
            cases h
            cases hi
            have hlt := (List.getElem?_eq_some_iff.1 hv).1
            have hmem := List.mem_iff_getElem?.2 ⟨_, hv⟩
            have hsz' := allSz_spec hall
            cases hx with
            | sl _ _ _ A c sz0 cu hc hcm hsz hA h1 hr hm =>
              obtain ⟨b, o, rfl, hcell⟩ := hA (by omega)
              have hat : ∀ j, j < v'.cells.length → n.toNat * sz + j < (flat es).length := by
                intro j hj
                have := flat_at hsz' hv (List.getElem?_eq_getElem hj)
                exact (List.getElem?_eq_some_iff.1 this).1
              refine ⟨.pointer (some ⟨b, o + n.toNat * sz + 0, none⟩), ?_, .pst g v' 0 b (o + n.toNat * sz) (fun j => cu (n.toNat * sz + j)) (fun j hj => ?_) (fun j hj => h1 _ (hat j hj)) (fun j u hju => hr _ u (flat_at hsz' hv hju))⟩
              · have hn : 0 ≤ n ∧ n < (es.length : Int) := by omega
                simp [Instr.indexAt, asIntOf, run_underlying hu, hn, run_sizeOf hse, add_lit']
              · have := hcell _ (hat j hj)
                rw [Nat.add_assoc]
                exact this
          · cases h
        · cases h
      · cases h
    · cases h
  · rename_i l off k n
    split at h
    · rename_i len sz ag hs
      obtain ⟨e, hu, hse⟩ := areOf_spec hs
      split at h
      · rename_i hn
        cases h
        cases hx; cases hi
        rename_i hl hb
        refine ⟨_, ?_, .ptr g l (off + n.toNat * sz) hl hb⟩
        simp [Instr.indexAt, asIntOf, run_underlying hu, Instr.sureAddr, hn, run_sizeOf hse, add_lit']
      · cases h
    · cases h
  · rename_i x' off k n
    split at h
    · rename_i len sz ag hs
      obtain ⟨e, hu, hse⟩ := areOf_spec hs
      split at h
      · rename_i hn
        cases h
        cases hi
        cases hx with
        | pst _ _ _ b o' cu hA h1' hr =>
          refine ⟨_, ?_, .pst g x' (off + n.toNat * sz) b o' cu hA h1' hr⟩
          simp [Instr.indexAt, asIntOf, run_underlying hu, Instr.sureAddr, hn, run_sizeOf hse, add_lit', Nat.add_assoc]
      · cases h
    · cases h
  · rename_i l off m c k n
    split at h
    · rename_i e sz ag hs
      obtain ⟨hu, hse⟩ := sleOf_spec hs
      split at h
      · rename_i hn
        cases h
        cases hx; cases hi
        rename_i hl hb hc hm
        refine ⟨_, ?_, .ptr g l (off + n.toNat * sz) hl hb⟩
        simp [Instr.indexAt, asIntOf, run_underlying hu, hn, run_sizeOf hse, add_lit']
      · cases h
    · cases h
  · cases h
theorem aIdx_ok {t : TypeId} {x i v : AV} {cx ci : Value} (h : aIdx P t x i = some v) (hx : Rel w g x cx) (hi : Rel w g i ci) : ∃ cv, (Instr.index t cx ci).run P w = .ok cv w ∧ Rel w g v cv := by
  unfold aIdx at h
  split at h
  · rename_i l k n
    split at h
    · rename_i hk
      obtain ⟨hk, h0⟩ := hk
      obtain ⟨b, hb, rfl⟩ := Option.map_eq_some_iff.1 h
      cases hx; cases hi
      refine ⟨.int .u8 (b.toNat : Int), ?_, .it g _ _⟩
      have hlt := (List.getElem?_eq_some_iff.1 hb).1
      have e : (⟨l.toArray⟩ : ByteArray)[n.toNat]? = some b := by
        rw [getElem?_pos _ _ (by show n.toNat < ByteArray.size _; simpa [ByteArray.size] using hlt)]
        rw [← hb, List.getElem?_eq_getElem hlt]
        rfl
      simp [Instr.index, asIntOf, run_underlying (kd_str hk), h0, e]
    · cases h
  · rename_i cs k n
    split at h
    · rename_i len sz ag hs
      obtain ⟨e, hu, hse⟩ := areOf_spec hs
      split at h
      · rename_i hn
        cases hi
        cases hx with | agg _ _ arr hn' h1' hr =>
        obtain ⟨cv, hcv, hrel⟩ := apart_ok hn' h1' hr hse h
        refine ⟨cv, ?_, hrel⟩
        simp [Instr.index, asIntOf, run_underlying hu, hn, run_sizeOf hse, hcv]
      · cases h
    · cases h
  · cases h
theorem aBui_ok {b : Builtin} {ts : Array TypeId} (ty : TypeId) (cn : Array Bool) {args : List Operand} {e : Env} {ρ : Operand → Value} {v : AV} (h : aBui P b ts (args.map (ev e)) = some v) (hr : ∀ x ∈ args, Rel w g (ev e x) (ρ x)) :
    ∃ cv, (builtin b ts ty cn (args.map ρ).toArray).run P w = .ok (.value cv) w ∧ Rel w g v cv := by
  unfold aBui at h
  split at h
  · rename_i l hargs
    split at h
    · rename_i t ht
      split at h
      · rename_i hk
        cases h
        obtain ⟨x, rfl, hx1⟩ := map_one hargs
        have hx := hr x (by simp)
        rw [hx1] at hx
        generalize hc : ρ x = cx at hx
        cases hx
        have hs : (⟨l.toArray⟩ : ByteArray).size = l.length := by simp [ByteArray.size]
        refine ⟨.int .i64 (l.length : Int), ?_, .it g _ _⟩
        simp only [builtin, Builtin.len_, ht, hc, List.map_cons, List.map_nil, List.getElem?_toArray, List.getElem?_cons_zero, Sem.run_bind, run_underlying (kd_str hk), Result.andThen_ok, goInt, hs, Sem.run_pure]
      · cases h
    · cases h
  · rename_i m es hargs
    split at h
    · rename_i t ht
      split at h
      · rename_i p hk
        obtain ⟨e', sz, ag⟩ := p
        cases h
        obtain ⟨hu, hse⟩ := sleOf_spec hk
        obtain ⟨x, rfl, hx1⟩ := map_one hargs
        have hx := hr x (by simp)
        rw [hx1] at hx
        generalize hc : ρ x = cx at hx
        cases hx
        refine ⟨.int .i64 (es.length : Int), ?_, .it g _ _⟩
        simp only [builtin, Builtin.len_, ht, hc, List.map_cons, List.map_nil, List.getElem?_toArray, List.getElem?_cons_zero, Sem.run_bind, run_underlying hu, Result.andThen_ok, goInt, Sem.run_pure]
      · cases h
    · cases h
  · rename_i l off n c hargs
    split at h
    · rename_i t ht
      split at h
      · rename_i p hk
        obtain ⟨e', sz, ag⟩ := p
        cases h
        obtain ⟨hu, hse⟩ := sleOf_spec hk
        obtain ⟨x, rfl, hx1⟩ := map_one hargs
        have hx := hr x (by simp)
        rw [hx1] at hx
        generalize hc : ρ x = cx at hx
        cases hx
        refine ⟨.int .i64 (n : Int), ?_, .it g _ _⟩
        simp only [builtin, Builtin.len_, ht, hc, List.map_cons, List.map_nil, List.getElem?_toArray, List.getElem?_cons_zero, Sem.run_bind, run_underlying hu, Result.andThen_ok, goInt, Sem.run_pure]
      · cases h
    · cases h
  · rename_i k a k' b hargs
    cases h
    obtain ⟨x, y, rfl, hargs1, hargs2⟩ := map_two hargs
    have hx := hr x (by simp)
    have hy := hr y (by simp)
    rw [hargs1] at hx
    rw [hargs2] at hy
    generalize hc : ρ x = cx at hx
    generalize hd : ρ y = cy at hy
    cases hx; cases hy
    refine ⟨_, ?_, .it g _ _⟩
    simp [builtin, Builtin.min_, Builtin.min2, hc, hd]
  · rename_i k a k' b hargs
    cases h
    obtain ⟨x, y, rfl, hargs1, hargs2⟩ := map_two hargs
    have hx := hr x (by simp)
    have hy := hr y (by simp)
    rw [hargs1] at hx
    rw [hargs2] at hy
    generalize hc : ρ x = cx at hx
    generalize hd : ρ y = cy at hy
    cases hx; cases hy
    refine ⟨_, ?_, .it g _ _⟩
    simp [builtin, Builtin.max_, Builtin.max2, hc, hd]
  · cases h
theorem BRel_map {e : Env} {ρ : Operand → Value} {x : Option Operand} (h : ∀ y, x = some y → Rel w g (ev e y) (ρ y)) : BRel w g (x.map (ev e)) (x.map ρ) := by
  cases x with
  | none => trivial
  | some y => exact h y rfl
theorem aval_ok {o : Oper} {e : Env} {ρ : Operand → Value} {v : AV} (h : aval P e o.op = some v) (hr : ∀ x, x ∈ o.op.operands.toList → Rel w g (ev e x) (ρ x)) :
    ∃ cv, (execOp ρ o).run P w = .ok (.value cv) w ∧ Rel w g v cv := by
  unfold execOp
  cases ho : o.op <;> rw [ho] at h hr <;> simp only [aval] at h <;> try (cases h; done)
  case move x => cases h; exact ⟨_, by simp, hr x (by simp [Op.operands])⟩
  case assign x => cases h; exact ⟨_, by simp, hr x (by simp [Op.operands])⟩
  case pick c a b =>
    split at h
    · rename_i t hc
      cases h
      have h1 := hr c (by simp [Op.operands])
      rw [hc] at h1
      generalize hcc : ρ c = cc at h1
      cases h1
      cases t
      · exact ⟨ρ b, by simp [hcc, asBool], hr b (by simp [Op.operands])⟩
      · exact ⟨ρ a, by simp [hcc, asBool], hr a (by simp [Op.operands])⟩
    · cases h
  case nilCheck x =>
    have hx := hr x (by simp [Op.operands])
    obtain ⟨rfl, h2⟩ := aNil_ok h hx
    refine ⟨ρ x, ?_, hx⟩
    dsimp only
    generalize ρ x = cx at h2 ⊢
    cases cx with
    | pointer a => cases a with
      | none => exact False.elim h2
      | some a => rfl
    | func f b c => cases f with
      | method nm => exact False.elim h2
      | _ => rfl
    | nilIface => exact False.elim h2
    | nilFunc => exact False.elim h2
    | _ => rfl
  case binOp op t x y yt =>
    obtain ⟨cv, h1, h2⟩ := aBin_ok (P := P) x y h (hr x (by simp [Op.operands])) (hr y (by simp [Op.operands]))
    exact ⟨cv, by rw [Sem.run_bind, h1]; rfl, h2⟩
  case unOp op t x =>
    obtain ⟨cv, h1, h2⟩ := aUn_ok (P := P) h (hr x (by simp [Op.operands]))
    exact ⟨cv, by simp [h1], h2⟩
  case convert s d x =>
    obtain ⟨cv, h1, h2⟩ := aConv_ok h (hr x (by simp [Op.operands]))
    exact ⟨cv, by simp [h1], h2⟩
  case makeFunc f a b =>
    cases h
    refine ⟨.func f (a.map ρ) (b.map ρ), by simp [Instr.makeFunc], .fn g f _ _ _ _ (by simp) (by simp) (fun j u v hu hv => ?_) (fun j u v hu hv => ?_)⟩
    · rw [List.getElem?_map] at hu
      obtain ⟨x, hx, rfl⟩ := Option.map_eq_some_iff.1 hu
      have hx' : a[j]? = some x := by simpa using hx
      rw [Array.getElem?_map, hx'] at hv
      cases hv
      refine hr x ?_
      simp only [Op.operands, Array.toList_append, List.mem_append]
      exact .inl (List.mem_iff_getElem?.2 ⟨j, hx⟩)
    · rw [List.getElem?_map] at hu
      obtain ⟨x, hx, rfl⟩ := Option.map_eq_some_iff.1 hu
      have hx' : b[j]? = some x := by simpa using hx
      rw [Array.getElem?_map, hx'] at hv
      cases hv
      refine hr x ?_
      simp only [Op.operands, Array.toList_append, List.mem_append]
      exact .inr (List.mem_iff_getElem?.2 ⟨j, hx⟩)
  case slice t x lo hi mx =>
    obtain ⟨cv, h1, h2⟩ := aSlice_ok (P := P) h (hr x (by simp [Op.operands])) (BRel_map fun y hy => hr y (by subst hy; simp [Op.operands])) (BRel_map fun y hy => hr y (by subst hy; simp [Op.operands])) (BRel_map fun y hy => hr y (by subst hy; simp [Op.operands]))
    exact ⟨cv, by simp [h1], h2⟩
  case fieldAddr t x f =>
    obtain ⟨cv, h1, h2⟩ := aFldAddr_ok h (hr x (by simp [Op.operands]))
    exact ⟨cv, by simp [h1], h2⟩
  case field t x f =>
    obtain ⟨cv, h1, h2⟩ := aFld_ok h (hr x (by simp [Op.operands]))
    exact ⟨cv, by simp [h1], h2⟩
  case indexAddr t x i =>
    obtain ⟨cv, h1, h2⟩ := aIdxAddr_ok h (hr x (by simp [Op.operands])) (hr i (by simp [Op.operands]))
    exact ⟨cv, by simp [h1], h2⟩
  case index t x i =>
    obtain ⟨cv, h1, h2⟩ := aIdx_ok h (hr x (by simp [Op.operands])) (hr i (by simp [Op.operands]))
    exact ⟨cv, by simp [h1], h2⟩
  case extract t i =>
    split at h
    · rename_i vs ht
      have hx := hr t (by simp [Op.operands])
      rw [ht] at hx
      generalize hct : ρ t = ct at hx
      cases hx with | tup _ _ arr hn hr' =>
      have hlt := (List.getElem?_eq_some_iff.1 h).1
      have hv : arr[i]? = some arr[i] := Array.getElem?_eq_getElem (by omega)
      exact ⟨arr[i], by simp [Instr.extract, hct, hv], hr' i v _ h hv⟩
    · cases h
  case build t parts =>
    split at h
    · rename_i pl z hs
      obtain ⟨cs, h1, rfl⟩ := Option.map_eq_some_iff.1 h
      obtain ⟨cv, h2, h3⟩ := aBuild_ok hs parts e ρ (fun p hp => hr p.2 (by simp only [Op.operands]; exact List.mem_map.2 ⟨p, hp, rfl⟩)) h1
      exact ⟨cv, by simp [h2], h3⟩
    · cases h
  case call c =>
    split at h
    · rename_i b hb
      obtain ⟨cv, h1, h2⟩ := aBui_ok o.type (c.args.map fun | .const _ => true | _ => false) h (fun x hx => hr x (by simp [Op.operands, Call.operands, hb, hx]))
      refine ⟨cv, ?_, h2⟩
      have e1 : (c.args.toList.map ρ).toArray = c.args.map ρ := by rw [← Array.toList_map, Array.toArray_toList]
      rw [e1] at h1
      show Sem.run P (do let d ← resolve ρ c o.type; invoke d.target d.args) w = _
      simp only [resolve, hb, Sem.run_bind, Sem.run_pure, Result.andThen_ok, invoke]
      exact h1
    · cases h
end
end Go.Proofs.Ytknbnhmenohacaa.Pe
