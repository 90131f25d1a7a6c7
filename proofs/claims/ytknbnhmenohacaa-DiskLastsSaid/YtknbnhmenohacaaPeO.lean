/- A function's text on plain values: regions, branches, loops, calls; a function's contract out of its text. Nothing of the program. -/
import Derived.Test.YtknbnhmenohacaaPeN
import Derived.Test.YtknbnhmenohacaaPeW
namespace Go.Proofs.Ytknbnhmenohacaa.Pe
set_option linter.unusedSectionVars false
set_option linter.unusedVariables false
set_option linter.unusedSimpArgs false
open Go Go.RowKit
variable [Tab]
/- calls of functions that have nothing to do with places -/
theorem r0_id {n : Nat} {ρ : Nat → Nat} {v : AV} (h : v.o0 n = true) (hρ : ∀ i, i < n → ρ i = i) : v.r0 ρ = v := by
  cases v with
  | sl m es =>
    cases m with
    | own l => simp only [AV.o0, decide_eq_true_eq] at h; simp only [AV.r0, Mode.ren, hρ l h]
    | _ => rfl
  | ptr l o => simp only [AV.o0, decide_eq_true_eq] at h; simp only [AV.r0, hρ l h]
  | mp l => simp only [AV.o0, decide_eq_true_eq] at h; simp only [AV.r0, hρ l h]
  | ws l o m c => simp only [AV.o0, decide_eq_true_eq] at h; simp only [AV.r0, hρ l h]
  | _ => rfl
theorem map_id_of {f : AV → AV} {p : AV → Bool} {l : List AV} (h : l.all p = true) (hf : ∀ v, p v = true → f v = v) : l.map f = l := by
  induction l with
  | nil => rfl
  | cons a l ih =>
    simp only [List.all_cons, Bool.and_eq_true] at h
    rw [List.map_cons, hf a h.1, ih h.2]
theorem r1_id {n : Nat} {ρ : Nat → Nat} {v : AV} (h : v.o1 n = true) (hρ : ∀ i, i < n → ρ i = i) : v.r1 ρ = v := by
  cases v with
  | fn f a c =>
    simp only [AV.o1, Bool.and_eq_true] at h
    simp only [AV.r1]
    rw [map_id_of h.1 (fun v hv => r0_id hv hρ), map_id_of h.2 (fun v hv => r0_id hv hρ)]
  | bo b => exact r0_id (v := (.bo b)) h hρ
  | it k n => exact r0_id (v := (.it k n)) h hρ
  | st l => exact r0_id (v := (.st l)) h hρ
  | ot x => exact r0_id (v := (.ot x)) h hρ
  | sl m es => exact r0_id (v := (.sl m es)) h hρ
  | ptr l o => exact r0_id (v := (.ptr l o)) h hρ
  | pst x o => exact r0_id (v := (.pst x o)) h hρ
  | mp l => exact r0_id (v := (.mp l)) h hρ
  | ws l o m c => exact r0_id (v := (.ws l o m c)) h hρ
  | junk => exact r0_id (v := .junk) h hρ
  | agg cs => exact r0_id (v := (.agg cs)) h hρ
  | tup vs => exact r0_id (v := (.tup vs)) h hρ
theorem r2_id {n : Nat} {ρ : Nat → Nat} {v : AV} (h : v.o2 n = true) (hρ : ∀ i, i < n → ρ i = i) : v.r2 ρ = v := by
  cases v with
  | agg cs => simp only [AV.r2]; rw [map_id_of h (fun v hv => r1_id hv hρ)]
  | bo b => exact r1_id (v := (.bo b)) h hρ
  | it k n => exact r1_id (v := (.it k n)) h hρ
  | st l => exact r1_id (v := (.st l)) h hρ
  | ot x => exact r1_id (v := (.ot x)) h hρ
  | sl m es => exact r1_id (v := (.sl m es)) h hρ
  | ptr l o => exact r1_id (v := (.ptr l o)) h hρ
  | pst x o => exact r1_id (v := (.pst x o)) h hρ
  | mp l => exact r1_id (v := (.mp l)) h hρ
  | ws l o m c => exact r1_id (v := (.ws l o m c)) h hρ
  | junk => exact r1_id (v := .junk) h hρ
  | fn f a c => exact r1_id (v := (.fn f a c)) h hρ
  | tup vs => exact r1_id (v := (.tup vs)) h hρ
theorem ren_id {n : Nat} {ρ : Nat → Nat} {v : AV} (h : v.ok n = true) (hρ : ∀ i, i < n → ρ i = i) : v.ren ρ = v := by
  cases v with
  | tup cs => simp only [AV.ren]; rw [map_id_of h (fun v hv => r2_id hv hρ)]
  | bo b => exact r2_id (v := (.bo b)) h hρ
  | it k n => exact r2_id (v := (.it k n)) h hρ
  | st l => exact r2_id (v := (.st l)) h hρ
  | ot x => exact r2_id (v := (.ot x)) h hρ
  | sl m es => exact r2_id (v := (.sl m es)) h hρ
  | ptr l o => exact r2_id (v := (.ptr l o)) h hρ
  | pst x o => exact r2_id (v := (.pst x o)) h hρ
  | mp l => exact r2_id (v := (.mp l)) h hρ
  | ws l o m c => exact r2_id (v := (.ws l o m c)) h hρ
  | junk => exact r2_id (v := .junk) h hρ
  | fn f a c => exact r2_id (v := (.fn f a c)) h hρ
  | agg cs => exact r2_id (v := (.agg cs)) h hρ
section
variable {P : Program}
theorem AC.pure {f : FuncId} {args : List AV} {v : AV} (h : AC P f args [] v []) (ha : args.all (AV.ok 0) = true) (hv : v.ok 0 = true) (T : Store) : AC P f args T v T := by
  have := h.frame (T := T) [] ⟨List.nodup_nil, rfl, fun i o hi => by simp at hi⟩ ha hv (fun i o hi => by simp at hi)
  rw [map_id_of ha (fun v hv => ren_id hv (fun i hi => absurd hi (Nat.not_lt_zero _))), ren_id hv (fun i hi => absurd hi (Nat.not_lt_zero _))] at this
  simpa [after, setAll] using this
/- slices handed on are only read -/
def AV.wk1 : AV → AV
  | .sl _ es => .sl .ro es
  | v => v
def AV.wk2 : AV → AV
  | .agg cs => .agg (cs.map AV.wk1)
  | v => v.wk1
def AV.wk : AV → AV
  | .tup vs => .tup (vs.map AV.wk2)
  | v => v.wk2
theorem Rel.wk1 {w : World} {g : Gh} {v : AV} {cv : Value} (h : Rel w g v cv) : Rel w g v.wk1 cv := by
  cases h with
  | sl _ m es A c sz cu hc hcm hsz hA h1 hr hm => exact .sl _ .ro es A c sz cu hc hcm hsz hA h1 hr trivial
  | bo => exact .bo _ _
  | it => exact .it _ _ _
  | st => exact .st _ _
  | ot _ _ h => exact .ot _ _ h
  | junk => exact .junk _ _
  | agg _ cs arr hn h1 hr => exact .agg _ cs arr hn h1 hr
  | tup _ vs arr hn hr => exact .tup _ vs arr hn hr
  | ptr _ l off hl hb => exact .ptr _ l off hl hb
  | pst _ e off b o cu hA h1 hr => exact .pst _ e off b o cu hA h1 hr
  | fn _ f first caps fa ca hf hc hrf hrc => exact .fn _ f first caps fa ca hf hc hrf hrc
  | mp _ l hl hb => exact .mp _ l hl hb
  | ws _ l o m c hl hb hc hm => exact .ws _ l o m c hl hb hc hm
theorem map_rel' {w : World} {g : Gh} {f : AV → AV} {vs : List AV} {arr : Array Value} (hf : ∀ u v, Rel w g u v → Rel w g (f u) v)
    (h : ∀ (j : Nat) u v, vs[j]? = some u → arr[j]? = some v → Rel w g u v) : ∀ (j : Nat) u v, (vs.map f)[j]? = some u → arr[j]? = some v → Rel w g u v := by
  intro j u v hu hv
  rw [List.getElem?_map] at hu
  obtain ⟨u', hu', rfl⟩ := Option.map_eq_some_iff.1 hu
  exact hf u' v (h j u' v hu' hv)
theorem Rel.wk2 {w : World} {g : Gh} {v : AV} {cv : Value} (h : Rel w g v cv) : Rel w g v.wk2 cv := by
  cases v with
  | agg cs =>
    cases h with
    | agg _ _ arr hn h1 hr => exact .agg _ _ arr (by simpa using hn) h1 (map_rel' (fun u v h => h.wk1) hr)
  | _ => exact Rel.wk1 h
theorem Rel.wk {w : World} {g : Gh} {v : AV} {cv : Value} (h : Rel w g v cv) : Rel w g v.wk cv := by
  cases v with
  | tup cs =>
    cases h with
    | tup _ _ arr hn hr => exact .tup _ _ arr (by simpa using hn) (map_rel' (fun u v h => h.wk2) hr)
  | _ => exact Rel.wk2 h
theorem AC.weak {f : FuncId} {args : List AV} {S S' : Store} {v : AV} (h : AC P f (args.map AV.wk) S v S') : AC P f args S v S' :=
  ⟨h.can, fun w g cargs hw hargs => h.run w g cargs hw ⟨by rw [hargs.1]; simp, map_rel' (fun u v h => h.wk) hargs.2⟩⟩
/- make of an empty slice -/
def aMake (P : Program) (t : TypeId) (l c : AV) (S : Store) : Option (AV × Store) :=
  match appOf P t, l, c with
  | some (e, sz, by_), .it _ n, .it _ m => if n = 0 ∧ 0 ≤ m ∧ fits m.toNat by_ = true then some (.sl (.own S.length) [], S ++ [.buf 0 e sz]) else none
  | _, _, _ => none
theorem does_make {o : Oper} {e : Env} {S S' : Store} {v : AV} {t : TypeId} {x y : Operand} (ho : o.op = .makeSlice t x y) (h : aMake P t (ev e x) (ev e y) S = some (v, S')) : Does P o e S v S' :=
  does_value fun ρ w g hw hr => by
    have hx := hr x (by rw [ho]; simp [Op.operands])
    have hy := hr y (by rw [ho]; simp [Op.operands])
    unfold aMake at h
    split at h
    · rename_i el sz by_ k n k' m ht h1 h2
      obtain ⟨hut, hsz0, i, z, hi, hz, rfl, rfl, hzs⟩ := appOf_spec ht
      split at h
      · rename_i hcond
        obtain ⟨rfl, h0, hfit⟩ := hcond
        cases h
        obtain ⟨hf1, hf2⟩ := fits_spec hfit
        rw [h1] at hx
        rw [h2] at hy
        generalize hcx : ρ x = cx at hx
        generalize hcy : ρ y = cy at hy
        cases hx; cases hy
        have hmm : (m.toNat : Int) = m := Int.toNat_of_nonneg h0
        have hcb : (i.bytes : Int) * m ≤ 140737488355328 := by
          have h3 : ((m.toNat * i.bytes : Nat) : Int) ≤ 140737488355328 := by omega
          rw [Int.natCast_mul, hmm, Int.mul_comm] at h3
          exact h3
        have hrun := run_make (P := P) w t el i z hut hi hz k k' 0 m (Int.le_refl _) h0 (by omega) (by omega)
        obtain ⟨g', h5, h6, h7⟩ := hw.new_buf (es := []) (cur := madeCells z.cells (m.toNat * i.size)) (e := el) (sz := i.size) (cap := m.toNat) (fr := (0, 0)) hsz0 (by simp) (by simp) (by unfold maxLen; omega) (by simp [madeCells]) (.inl (by simp)) [] ⟨by simp [flat], by simp, by simp [flat]⟩ (by simp)
        refine ⟨_, _, g', ?_, h5, h7, h6⟩
        unfold execOp
        simp only [ho, hcx, hcy, Sem.run_bind, hrun, Result.andThen_ok, Sem.run_pure]
        rfl
      · cases h
    · cases h
/- '[]byte(s)' -/
def bytOf (P : Program) (d : TypeId) : Option TypeId :=
  match P.underlying d with
  | some (.slice el) => match P.underlying el with
    | some (.int .u8) => some el
    | _ => none
  | _ => none
theorem bytOf_spec {d el : TypeId} (h : bytOf P d = some el) : P.underlying d = some (.slice el) ∧ P.underlying el = some (.int .u8) := by
  unfold bytOf at h
  split at h
  · rename_i e h1
    split at h
    · rename_i h2
      cases h
      exact ⟨h1, h2⟩
    · cases h
  · cases h
def aBytes (P : Program) (s d : TypeId) (x : AV) (S : Store) : Option (AV × Store) :=
  match kdOf P s, bytOf P d, x with
  | .str, some el, .st l => if l.length ≤ 140737488355328 then some (.sl (.own S.length) (l.map u8), S ++ [.buf l.length el 1]) else none
  | _, _, _ => none
/- literals -/
def aLits (P : Program) (t : TypeId) (n : Nat) (qs : List (Nat × AV)) : Option AV := if (appOf P t).isSome ∧ (sleOf P t).all (fun s => (zerOf P s.1).isSome) = true then aLit P t n qs else none
/-- what follows, of a value that may be missing; simp looks at the value alone -/
def bindO {α : Type} (x : Option α) (K : α → Prop) : Prop :=
  match x with
  | some v => K v
  | none => False
@[congr] theorem bindO_congr {α : Type} {x y : Option α} (K : α → Prop) (h : x = y) : bindO x K = bindO y K := by rw [h]
def orO {α : Type} (x y : Option α) : Option α := match x with
  | some v => some v
  | none => y
theorem orO_some {α : Type} (v : α) (y : Option α) : orO (some v) y = some v := rfl
theorem orO_none {α : Type} (y : Option α) : orO none y = y := rfl
def okO (b : Bool) : Option Unit := if b then some () else none
theorem okO_true : okO true = some () := rfl
theorem bindO_some {α : Type} (v : α) (K : α → Prop) : bindO (some v) K = K v := rfl
theorem bindO_none {α : Type} (K : α → Prop) : bindO none K = False := rfl
theorem bindO_spec {α : Type} {x : Option α} {K : α → Prop} (h : bindO x K) : ∃ v, x = some v ∧ K v := by
  cases x with
  | none => exact h.elim
  | some v => exact ⟨v, rfl, h⟩
/-- both ways of a test; simp looks at the test alone -/
def iteP (b : Bool) (X Y : Prop) : Prop := (b = true → X) ∧ (b = false → Y)
@[congr] theorem iteP_congr {b c : Bool} (X Y : Prop) (h : b = c) : iteP b X Y = iteP c X Y := by rw [h]
theorem iteP_true (X Y : Prop) : iteP true X Y = X := by simp [iteP]
theorem iteP_false (X Y : Prop) : iteP false X Y = Y := by simp [iteP]
theorem iteP_mk {b : Bool} {X Y : Prop} (h : b = true → X) (h' : b = false → Y) : iteP b X Y := ⟨h, h'⟩
/-- what follows a call; simp does not look behind it -/
def callP (C : AV → Store → Prop) (K : AV → Store → Prop) : Prop := ∃ v S, C v S ∧ K v S
@[congr] theorem callP_congr {C D : AV → Store → Prop} (K : AV → Store → Prop) (h : C = D) : callP C K = callP D K := by rw [h]
theorem callP_mk {C : AV → Store → Prop} {K : AV → Store → Prop} (v : AV) (S : Store) (h : C v S) (h' : K v S) : callP C K := ⟨v, S, h, h'⟩
/-- the contract of a function that has nothing to do with places -/
def PureC (P : Program) (f : FuncId) (args : List AV) (S : Store) (v : AV) (S' : Store) : Prop := AC P f (args.map AV.wk) [] v [] ∧ (args.map AV.wk).all (AV.ok 0) = true ∧ v.ok 0 = true ∧ S' = S
/-- the contract of a function that only reads -/
def ReadC (P : Program) (f : FuncId) (args : List AV) (S : Store) (v : AV) (S' : Store) : Prop := AC P f (args.map AV.wk) S v S ∧ S' = S
/-- the contract of any function -/
def AnyC (P : Program) (f : FuncId) (args : List AV) (S : Store) (v : AV) (S' : Store) : Prop := AC P f (args.map AV.wk) S v S'
/-- a call -/
def ACall (P : Program) (pf rf : List FuncId) (f : FuncId) (args : List AV) (S : Store) : AV → Store → Prop :=
  if pf.contains f then PureC P f args S else if rf.contains f then ReadC P f args S else AnyC P f args S
def ACallT (P : Program) (pf rf : List FuncId) (fo : Operand) (f : FuncId) (args : List AV) (S : Store) : AV → Store → Prop :=
  match fo with
  | .tmp t => if pf.contains (t + 1000000) then PureC P f args S else if rf.contains (t + 1000000) then ReadC P f args S else ACall P pf rf f args S
  | _ => ACall P pf rf f args S
/-- an operation: what follows is asked of what it yields and leaves -/
def AOp (P : Program) (pf rf : List FuncId) (op : Op) (e : Env) (S : Store) (K : AV → Store → Prop) : Prop :=
  match op with
  | .load t x => bindO (aLoad (szOf P t) S (ev e x)) fun v => K v S
  | .store t x y => bindO (aStore (szOf P t) S (ev e x) (ev e y)) fun S' => K .junk S'
  | .box _ x => bindO (if (ev e x).solid = true then some (ev e x).cells else none) fun cs => K (.ptr S.length 0) (S ++ [.cells cs])
  | .alloc t => bindO (zerOf P t) fun z => K (.ptr S.length 0) (S ++ [.cells z])
  | .buildSlice t n parts => bindO (aLits P t n (parts.toList.map fun p => (p.1, ev e p.2))) fun v => K v S
  | .makeSlice t x y => bindO (orO (aMake P t (ev e x) (ev e y) S) (aMakeW P t (ev e x) (ev e y) S)) fun r => K r.1 r.2
  | .makeMap t r => bindO (okO ((mapOf P t).isSome && aMk (r.map (ev e)))) fun _ => K (.mp S.length) (S ++ [.map []])
  | .insert t m k v => bindO (aMapSet (mapOf P t) S (ev e m) (ev e k) (ev e v)) fun S' => K .junk S'
  | .mapUpdate t m k v => bindO (aMapSet (mapOf P t) S (ev e m) (ev e k) (ev e v)) fun S' => K .junk S'
  | .lookup t x k b => bindO (aLook (mapOf P t) S (ev e x) (ev e k) b) fun v => K v S
  | .range t x => bindO (aRange (kdOf P t) S (ev e x)) fun r => K r.1 r.2
  | .next x b => bindO (aNext S (ev e x) b) fun r => K r.1 r.2
  | .convert s d x => match kdOf P d with
    | .bytes => bindO (aBytes P s d (ev e x) S) fun r => K r.1 r.2
    | _ => bindO (aConv P s d (ev e x)) fun v => K v S
  | .call c => match c.callee with
    | .value fo => match ev e fo with
      | .fn (.func f) fa ca => callP (ACallT P pf rf fo f (fa ++ c.args.toList.map (ev e) ++ ca) S) K
      | _ => False
    | .builtin .append => match c.args.toList, c.argTypes.toList with
      | [x, y], [t, u] => bindO (aApp P t u S (ev e x) (ev e y)) fun r => K r.1 r.2
      | _, _ => False
    | .builtin b => bindO (aBui P b c.argTypes (c.args.toList.map (ev e))) fun v => K v S
    | _ => False
  | .pick c x y => match ev e c with
    | .bo t => K (if t then ev e x else ev e y) S
    | _ => False
  | op => bindO (aval P e op) fun v => K v S
theorem xstep_aval {c : Cls} {o : Oper} {e : Env} {S : Store} {v : AV} (hc : c = .free) (h : aval P e o.op = some v) : XStep P c o e S v S := by
  subst hc
  exact ⟨rfl, fun T => does_aval h⟩
theorem AOp_ok {pf rf : List FuncId} {o : Oper} {e : Env} {S : Store} {K : AV → Store → Prop} (h : AOp P pf rf o.op e S K) : ∃ v S', XStep P (clsOf P pf rf o.op) o e S v S' ∧ K v S' := by
  unfold AOp at h
  cases ho : o.op <;> rw [ho] at h <;> simp only at h
  case load t x =>
    obtain ⟨v, hv, h⟩ := bindO_spec h
    exact ⟨v, S, ⟨rfl, does_load ho hv⟩, h⟩
  case store t x y =>
    obtain ⟨S', hv, h⟩ := bindO_spec h
    exact ⟨.junk, S', does_store ho hv, h⟩
  case box t x =>
    obtain ⟨cs, hv, h⟩ := bindO_spec h
    split at hv
    · rename_i hs
      cases hv
      exact ⟨_, _, does_box ho hs, h⟩
    · cases hv
  case alloc t =>
    obtain ⟨z, hv, h⟩ := bindO_spec h
    exact ⟨_, _, does_alloc ho hv, h⟩
  case buildSlice t n parts =>
    obtain ⟨v, hv, h⟩ := bindO_spec h
    unfold aLits at hv
    split at hv
    · rename_i hc
      exact ⟨v, S, ⟨rfl, fun T => does_lit ho hv (fun e' sz ag hs => by have := hc.2; rw [hs] at this; simpa using this)⟩, h⟩
    · cases hv
  case makeSlice t x y =>
    obtain ⟨⟨v, S'⟩, hv, h⟩ := bindO_spec h
    refine ⟨v, S', ?_, h⟩
    unfold orO at hv
    split at hv
    · rename_i h1; cases hv; exact does_make ho h1
    · exact does_makeW ho hv
  case makeMap t r =>
    obtain ⟨_, hv, h⟩ := bindO_spec h
    unfold okO at hv
    split at hv
    · rename_i h1
      simp only [Bool.and_eq_true] at h1
      exact ⟨_, _, does_makeMap ho h1.1 h1.2, h⟩
    · cases hv
  case insert t m k v =>
    obtain ⟨S', hv, h⟩ := bindO_spec h
    exact ⟨.junk, S', does_mapSet (.inr ho) hv, h⟩
  case mapUpdate t m k v =>
    obtain ⟨S', hv, h⟩ := bindO_spec h
    exact ⟨.junk, S', does_mapSet (.inl ho) hv, h⟩
  case lookup t x k b =>
    obtain ⟨v, hv, h⟩ := bindO_spec h
    exact ⟨v, S, ⟨rfl, does_lookup ho hv⟩, h⟩
  case range t x =>
    obtain ⟨⟨v, S'⟩, hv, h⟩ := bindO_spec h
    exact ⟨v, S', does_range ho hv, h⟩
  case next x b =>
    obtain ⟨⟨v, S'⟩, hv, h⟩ := bindO_spec h
    exact ⟨v, S', does_next ho hv, h⟩
  case convert s d x =>
    split at h
    · rename_i hk
      obtain ⟨r, hv, h⟩ := bindO_spec h
      refine ⟨r.1, r.2, ?_, h⟩
      unfold aBytes at hv
      split at hv
      · rename_i el l h1 h2 h3
        split at hv
        · rename_i h4
          cases hv
          obtain ⟨h5, h6⟩ := bytOf_spec h2
          simp only [clsOf, hk]
          exact does_bytes ho h1 h5 h6 h3 h4
        · cases hv
      · cases hv
    · rename_i hk
      obtain ⟨v, hv, h⟩ := bindO_spec h
      refine ⟨v, S, xstep_aval ?_ (by rw [ho]; exact hv), h⟩
      simp only [clsOf]
  case pick c x y =>
    split at h
    · rename_i t ht
      exact ⟨_, S, xstep_aval rfl (by rw [ho]; simp only [aval, ht]), h⟩
    · exact h.elim
  case call c =>
    split at h
    · rename_i fo hfo
      split at h
      · rename_i f fa ca hf
        obtain ⟨v, S', h, h4⟩ := h
        refine ⟨v, S', ?_, h4⟩
        have purec : PureC P f (fa ++ c.args.toList.map (ev e) ++ ca) S v S' → XStep P .free o e S v S' := fun ⟨h1, h2, h3, h5⟩ => by
          subst h5
          exact ⟨rfl, fun T => does_call ho hfo hf (h1.pure h2 h3 T).weak⟩
        have readc : ReadC P f (fa ++ c.args.toList.map (ev e) ++ ca) S v S' → XStep P .read o e S v S' := fun ⟨h1, h5⟩ => by
          subst h5
          exact ⟨rfl, does_call ho hfo hf h1.weak⟩
        have anyc : ACall P pf rf f (fa ++ c.args.toList.map (ev e) ++ ca) S v S' → Does P o e S v S' := fun h => by
          unfold ACall at h
          split at h
          · exact (purec h).does
          · split at h
            · exact (readc h).does
            · exact does_call ho hfo hf (AC.weak h)
        unfold ACallT at h
        cases fo with
        | tmp t =>
          simp only at h
          simp only [clsOf, hfo]
          split at h
          · rename_i hp; rw [if_pos hp]; exact purec h
          · rename_i hp
            rw [if_neg hp]
            split at h
            · rename_i hq; rw [if_pos hq]; exact readc h
            · rename_i hq; rw [if_neg hq]; exact anyc h
        | func f' =>
          simp only at h
          simp only [clsOf, hfo]
          have : ev e (.func f') = .fn (.func f) fa ca := hf
          cases this
          unfold ACall at h
          split at h
          · rename_i hp; rw [if_pos hp]; exact purec h
          · rename_i hp
            rw [if_neg hp]
            split at h
            · rename_i hq; rw [if_pos hq]; exact readc h
            · rename_i hq; rw [if_neg hq]; exact does_call ho hfo hf (AC.weak h)
        | const v => simp only [clsOf, hfo]; exact anyc h
        | global g => simp only [clsOf, hfo]; exact anyc h
      · exact h.elim
    · rename_i hb
      split at h
      · rename_i x y t u hargs hts
        obtain ⟨r, hv, h⟩ := bindO_spec h
        refine ⟨r.1, r.2, ?_, h⟩
        have hc : c = { callee := .builtin .append, args := #[x, y], argTypes := #[t, u] } := by
          cases c with | mk ce ar at_ =>
          simp only at hb hargs hts
          rw [hb]
          congr 1
          · exact Array.ext' hargs
          · exact Array.ext' hts
        simp only [clsOf, hb]
        exact does_append (by rw [ho, hc]) hv
      · exact h.elim
    · rename_i b hne hb
      obtain ⟨v, hv, h⟩ := bindO_spec h
      refine ⟨v, S, ?_, h⟩
      have hd : ∀ T, Does P o e T v T := fun T => does_aval (by rw [ho]; simp only [aval, hb]; exact hv)
      simp only [clsOf, hb]
      split <;> first | (rename_i hh; cases hh; done) | exact ⟨rfl, hd⟩ | exact hd S
    · exact h.elim
  all_goals
    obtain ⟨v, hv, h⟩ := bindO_spec h
    first
      | exact ⟨v, S, xstep_aval rfl (by rw [ho]; exact hv), h⟩
      | (cases hv; done)
end
end Go.Proofs.Ytknbnhmenohacaa.Pe
