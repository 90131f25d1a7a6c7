/- Maps, iteration over strings, and rows that are written cell by cell, on plain values. Nothing of the program. -/
import Derived.Test.YtknbnhmenohacaaPeM
import Derived.MapKept
import Derived.Laws.MakeOwn
namespace Go.Proofs.Ytknbnhmenohacaa.Pe
set_option linter.unusedSectionVars false
set_option linter.unusedVariables false
set_option linter.unusedSimpArgs false
open Go Go.RowKit Go.MapKept
variable [Tab]
/- rows that are written -/
def mkz (zs : List AV) (n : Nat) : List AV := (List.range n).map fun j => zs.getD (j % zs.length) .junk
theorem mkz_one (z : AV) (n : Nat) : mkz [z] n = List.replicate n z := by
  refine List.ext_getElem (by simp [mkz]) fun j h1 h2 => ?_
  simp [mkz, Nat.mod_one]
theorem made_rel {w : World} {g : Gh} {z : Value} (h : ∀ v ∈ z.cells.toList, v.oneCell' = true) (n : Nat) (hpos : 0 < z.cells.size) : CellsRel w g (mkz (z.cells.toList.map cst1) n) (madeCells z.cells n) := by
  have hget : ∀ j, j < n → (madeCells z.cells n)[j]? = some (z.cells[j % z.cells.size]'(Nat.mod_lt _ hpos)) := fun j hj => by
    have : j % z.cells.size < z.cells.size := Nat.mod_lt _ hpos
    simp [madeCells, hj, this]
  refine ⟨by simp [mkz, madeCells], fun v hv => ?_, fun j u v hu hv => ?_⟩
  · obtain ⟨j, hj⟩ := List.mem_iff_getElem?.1 hv
    have hj : (madeCells z.cells n)[j]? = some v := by simpa using hj
    have hjn : j < n := by have := (Array.getElem?_eq_some_iff.1 hj).1; simpa [madeCells] using this
    rw [hget j hjn] at hj
    cases hj
    exact h _ (by simp)
  · have hjn : j < n := by have := (Array.getElem?_eq_some_iff.1 hv).1; simpa [madeCells] using this
    rw [hget j hjn] at hv
    cases hv
    have hm : j % z.cells.size < z.cells.size := Nat.mod_lt _ hpos
    have : u = cst1 z.cells[j % z.cells.size] := by
      rw [mkz, List.getElem?_map, List.getElem?_range hjn] at hu
      simp only [Option.map_some, Option.some.injEq, List.length_map, Array.length_toList] at hu
      rw [← hu, List.getD_eq_getElem?_getD, List.getElem?_map]
      simp [hm]
    rw [this]
    exact cst1_ok w g _
theorem rel_ptr_inv {w : World} {g : Gh} {l o b : Nat} (h : Rel w g (.ptr l o) (.pointer (some ⟨b, o, none⟩))) : l < g.nid ∧ g.buf l = false ∧ g.pl l = b := by
  generalize hq : Value.pointer (some ⟨b, o, none⟩) = q at h
  cases h with
  | ptr _ _ _ hl hb =>
    simp only [Value.pointer.injEq, Option.some.injEq, Addr.mk.injEq] at hq
    exact ⟨hl, hb, hq.1.symm⟩
def aMakeW (P : Program) (t : TypeId) (l c : AV) (S : Store) : Option (AV × Store) :=
  match appOf P t, l, c with
  | some (e, sz, by_), .it _ n, .it _ m => match zerOf P e with
    | some zs => if 0 < n ∧ n ≤ m ∧ fits m.toNat by_ = true then some (.ws S.length 0 n.toNat m.toNat, S ++ [.cells (mkz zs (m.toNat * sz))]) else none
    | none => none
  | _, _, _ => none
section
variable {P : Program}
theorem does_makeW {o : Oper} {e : Env} {S S' : Store} {v : AV} {t : TypeId} {x y : Operand} (ho : o.op = .makeSlice t x y) (h : aMakeW P t (ev e x) (ev e y) S = some (v, S')) : Does P o e S v S' :=
  does_value fun ρ w g hw hr => by
    have hx := hr x (by rw [ho]; simp [Op.operands])
    have hy := hr y (by rw [ho]; simp [Op.operands])
    unfold aMakeW at h
    split at h
    · rename_i el sz by_ k n k' m ht h1 h2
      obtain ⟨hut, hsz0, i, z, hi, hz, rfl, rfl, hzs⟩ := appOf_spec ht
      split at h
      · rename_i zs hzer
        obtain ⟨i', z', hi', hz', hone, rfl⟩ := zerOf_spec hzer
        rw [hi] at hi'; cases hi'
        rw [hz] at hz'; cases hz'
        split at h
        · rename_i hcond
          obtain ⟨h0, hnm, hfit⟩ := hcond
          cases h
          obtain ⟨hf1, hf2⟩ := fits_spec hfit
          rw [h1] at hx
          rw [h2] at hy
          generalize hcx : ρ x = cx at hx
          generalize hcy : ρ y = cy at hy
          cases hx; cases hy
          have hmm : (m.toNat : Int) = m := Int.toNat_of_nonneg (by omega)
          have hcb : (i.bytes : Int) * m ≤ 140737488355328 := by
            have h3 : ((m.toNat * i.bytes : Nat) : Int) ≤ 140737488355328 := by omega
            rw [Int.natCast_mul, hmm, Int.mul_comm] at h3
            exact h3
          have hrun := run_make (P := P) w t el i z hut hi hz k k' n m (by omega) hnm (by omega) (by omega)
          obtain ⟨g', h5, h6, h7⟩ := hw.new_cells (made_rel (w := w) (g := g) hone (m.toNat * i.size) (by omega)) el
          refine ⟨.slice (some ⟨w.heap.size, 0, none⟩) n.toNat m.toNat, _, g', ?_, h5, ?_, h6⟩
          · unfold execOp
            simp only [ho, hcx, hcy, Sem.run_bind, hrun, Result.andThen_ok, Sem.run_pure]
          · obtain ⟨hl, hb, hp⟩ := rel_ptr_inv h7
            have := Rel.ws (w := w.alloc (.cells (madeCells z.cells (m.toNat * i.size)) el)) g' S.length 0 n.toNat m.toNat hl hb (by omega) (by unfold maxLen; omega)
            rw [hp] at this
            exact this
        · cases h
      · cases h
    · cases h
/- maps -/
def keq : AV → AV → Option Bool
  | .it k a, .it k' b => if k = k' then some (a == b) else none
  | .st a, .st b => some (a == b)
  | .bo a, .bo b => some (a == b)
  | _, _ => none
def kfind (k : AV) : List (AV × AV) → Nat → Option (Option (Nat × AV))
  | [], _ => some none
  | (k', v) :: r, i => match keq k k' with
    | some true => some (some (i, v))
    | some false => kfind k r (i + 1)
    | none => none
/-- a map's type: whether its keys are numbers (of a kind) or strings, the zero value of its elements -/
def mapOf (P : Program) (t : TypeId) : Option (Option IntKind × AV) :=
  match P.underlying t with
  | some (.map k e) => match P.underlying k, P.info? e with
    | some (.int q), some i => i.zero.map fun z => (some q, cst z)
    | some .string, some i => i.zero.map fun z => (none, cst z)
    | _, _ => none
  | _ => none
def kok : Option IntKind → AV → Bool
  | some q, .it k _ => k == q
  | none, .st _ => true
  | _, _ => false
theorem mapOf_spec {t : TypeId} {b : Option IntKind} {z : AV} (h : mapOf P t = some (b, z)) : ∃ k e d i zv, P.underlying t = some (.map k e) ∧ P.underlying k = some d ∧ P.info? e = some i ∧ i.zero = some zv ∧ z = cst zv ∧
    (∀ (w : World) (g : Gh) (u : AV) (v : Value), kok b u = true → Rel w g u v → IsKey d v) := by
  unfold mapOf at h
  split at h
  · rename_i k e hm
    split at h
    · rename_i q i hk hi
      obtain ⟨zv, hz, h⟩ := Option.map_eq_some_iff.1 h
      cases h
      refine ⟨k, e, _, i, zv, hm, hk, hi, hz, rfl, fun w g u v hu hr => ?_⟩
      cases u <;> simp [kok] at hu
      cases hr
      exact hu
    · rename_i i hk hi
      obtain ⟨zv, hz, h⟩ := Option.map_eq_some_iff.1 h
      cases h
      refine ⟨k, e, _, i, zv, hm, hk, hi, hz, rfl, fun w g u v hu hr => ?_⟩
      cases u <;> simp [kok] at hu
      cases hr
      trivial
    · cases h
  · cases h
theorem keq_ok {w : World} {g : Gh} {d : TypeDesc} {x y : AV} {cx cy : Value} {r : Bool} (h : keq x y = some r) (hx : Rel w g x cx) (hy : Rel w g y cy) (hk : IsKey d cx) : Instr.sameNow d cx cy = some r ∧ (r = true → cx = cy) := by
  cases x <;> cases y <;> simp only [keq, reduceCtorEq] at h
  · cases hx; cases hy
    rename_i a b
    cases d <;> simp only [IsKey] at hk
    cases h
    exact ⟨rfl, fun e => by rw [beq_iff_eq.1 e]⟩
  · cases hx; cases hy
    split at h
    · rename_i hkk
      cases h
      cases d <;> simp only [IsKey] at hk
      subst hkk
      exact ⟨by simp [Instr.sameNow], fun e => by rw [beq_iff_eq.1 e]⟩
    · cases h
  · cases hx; cases hy
    cases h
    cases d <;> simp only [IsKey] at hk
    rename_i a b
    refine ⟨?_, fun e => by rw [beq_iff_eq.1 e]⟩
    simp only [Instr.sameNow, Option.some.injEq]
    rw [Bool.eq_iff_iff]
    constructor
    · intro h
      have : (⟨a.toArray⟩ : ByteArray) = ⟨b.toArray⟩ := by simpa [bytes_beq] using h
      have : a.toArray = b.toArray := congrArg ByteArray.data this
      have : a = b := by simpa using this
      simpa using this
    · intro h
      have : a = b := by simpa using h
      subst this
      simp [bytes_beq]
theorem kfind_ok {w : World} {g : Gh} {d : TypeDesc} {k : AV} {ck : Value} (hk : Rel w g k ck) (hkey : IsKey d ck) : ∀ (es : List (AV × AV)) (me : List MapEntry) (i : Nat) (r : Option (Nat × AV)), me.length = es.length →
    (∀ (j : Nat) u x, es[j]? = some u → me[j]? = some x → Rel w g u.1 x.key ∧ Rel w g u.2 x.val) → kfind k es i = some r →
    (r = none ∧ Instr.findNow d ck me i = some none) ∨ ∃ j u x, r = some (i + j, u.2) ∧ es[j]? = some u ∧ me[j]? = some x ∧ Instr.findNow d ck me i = some (some (i + j, x.val)) ∧ ck = x.key ∧ Rel w g u.2 x.val
  | [], me, i, r, hl, _, h => by
    obtain rfl : me = [] := List.eq_nil_of_length_eq_zero hl
    cases h
    exact .inl ⟨rfl, rfl⟩
  | u :: es, me, i, r, hl, hr, h => by
    cases me with
    | nil => simp at hl
    | cons x me =>
      obtain ⟨h1, h2⟩ := hr 0 u x rfl rfl
      unfold kfind at h
      split at h
      · rename_i he
        cases h
        obtain ⟨e1, e2⟩ := keq_ok he hk h1 hkey
        exact .inr ⟨0, u, x, rfl, rfl, rfl, by simp [Instr.findNow, e1], e2 rfl, h2⟩
      · rename_i he
        obtain ⟨e1, _⟩ := keq_ok he hk h1 hkey
        rcases kfind_ok hk hkey es me (i + 1) r (by simpa using hl) (fun j u x hu hx => hr (j + 1) u x (by simpa using hu) (by simpa using hx)) h with ⟨rfl, h3⟩ | ⟨j, u', x', rfl, h3, h4, h5, h6, h7⟩
        · exact .inl ⟨rfl, by simp [Instr.findNow, e1, h3]⟩
        · exact .inr ⟨j + 1, u', x', by rw [show i + 1 + j = i + (j + 1) from by omega], by simpa using h3, by simpa using h4, by simp only [Instr.findNow, e1]; rw [h5, show i + 1 + j = i + (j + 1) from by omega], h6, h7⟩
      · cases h
def lookOut (ok : Bool) (z : AV) (r : Option (Nat × AV)) : AV :=
  match r, ok with
  | some (_, v), true => .tup [v, .bo true]
  | none, true => .tup [z, .bo false]
  | some (_, v), false => v
  | none, false => z
def aLook (m : Option (Option IntKind × AV)) (S : Store) (x k : AV) (ok : Bool) : Option AV :=
  match m, x with
  | some (q, z), .mp l => match S[l]? with
    | some (.map es) => if kok q k = true then (kfind k es 0).map (lookOut ok z) else none
    | _ => none
  | some (q, z), .ot (.map none) => if kok q k = true then some (lookOut ok z none) else none
  | _, _ => none
theorem rel_out {w : World} {g : Gh} {v : AV} {cv : Value} (h : Rel w g v cv) (b : Bool) : Rel w g (.tup [v, .bo b]) (.tuple #[cv, .bool b]) := by
  refine .tup _ _ _ rfl fun j u v hu hv => ?_
  match j with
  | 0 => cases hu; cases hv; exact h
  | 1 => cases hu; cases hv; exact .bo _ _
  | j + 2 => simp at hu
theorem run_zero {w : World} {t : TypeId} {i : TypeInfo} {zv : Value} (hi : P.info? t = some i) (hz : i.zero = some zv) : (zeroValue t).run P w = .ok zv w := by simp [zeroValue, typeInfo, hi, hz]
theorem does_lookup {o : Oper} {e : Env} {S : Store} {v : AV} {t : TypeId} {x k : Operand} {ok : Bool} (ho : o.op = .lookup t x k ok) (h : aLook (mapOf P t) S (ev e x) (ev e k) ok = some v) : Does P o e S v S :=
  does_value fun ρ w g hw hr => by
    have hx := hr x (by rw [ho]; simp [Op.operands])
    have hk := hr k (by rw [ho]; simp [Op.operands])
    suffices H : ∃ cv, (Instr.lookup t (ρ x) (ρ k) ok).run P w = .ok cv w ∧ Rel w g v cv by
      obtain ⟨cv, h1, h2⟩ := H
      refine ⟨cv, w, g, ?_, hw, h2, Evo.refl w g⟩
      unfold execOp
      simp only [ho, Sem.run_bind, h1, Result.andThen_ok, Sem.run_pure]
    unfold aLook at h
    split at h
    · rename_i q z l hm hxe
      obtain ⟨kt, et, d, i, zv, hmt, hkd, hi, hz, rfl, hkey⟩ := mapOf_spec hm
      rw [hxe] at hx
      generalize ρ x = cx at hx
      cases hx
      split at h
      · rename_i es hS
        obtain ⟨hb, hown, hG, me, clock, hheap, hsz, hlt, hnd, hrel⟩ := hw.obj l _ hS
        split at h
        · rename_i hkok
          obtain ⟨r, hf, rfl⟩ := Option.map_eq_some_iff.1 h
          have hik := hkey w g _ _ hkok hk
          have hck : ∀ b, (Instr.checkKey b 10000 kt (ρ k)).run P w = .ok () w := fun b => run_checkKey (P := P) (w := w) hkd hik b 9999
          rcases kfind_ok hk hik es me.toList 0 r (by simpa using hsz) (fun j u x hu hx => hrel j u x hu (by simpa using hx)) hf with ⟨rfl, h3⟩ | ⟨j, u, x', rfl, h3, h4, h5, h6, h7⟩
          · have hfk := run_findKey (P := P) (w := w) hkd h3
            cases ok with
            | true => exact ⟨_, by simp [Instr.lookup, run_underlying hmt, Go.MapKept.run_getObj_map hheap, hck, hfk, run_zero hi hz], rel_out (cst_ok w g zv) false⟩
            | false => exact ⟨_, by simp [Instr.lookup, run_underlying hmt, Go.MapKept.run_getObj_map hheap, hck, hfk, run_zero hi hz], cst_ok w g zv⟩
          · have hfk := run_findKey (P := P) (w := w) hkd h5
            cases ok with
            | true => exact ⟨_, by simp [Instr.lookup, run_underlying hmt, Go.MapKept.run_getObj_map hheap, hck, hfk], rel_out h7 true⟩
            | false => exact ⟨_, by simp [Instr.lookup, run_underlying hmt, Go.MapKept.run_getObj_map hheap, hck, hfk], h7⟩
        · cases h
      · cases h
    · rename_i q z hm hxe
      obtain ⟨kt, et, d, i, zv, hmt, hkd, hi, hz, rfl, hkey⟩ := mapOf_spec hm
      rw [hxe] at hx
      generalize ρ x = cx at hx
      cases hx
      split at h
      · rename_i hkok
        cases h
        have hik := hkey w g _ _ hkok hk
        have hck : ∀ b, (Instr.checkKey b 10000 kt (ρ k)).run P w = .ok () w := fun b => run_checkKey (P := P) (w := w) hkd hik b 9999
        have hfk : (Instr.findKey kt (ρ k) []).run P w = .ok none w := run_findKey (P := P) (w := w) hkd rfl
        cases ok with
        | true => exact ⟨_, by simp [Instr.lookup, run_underlying hmt, hck, hfk, run_zero hi hz], rel_out (cst_ok w g zv) false⟩
        | false => exact ⟨_, by simp [Instr.lookup, run_underlying hmt, hck, hfk, run_zero hi hz], cst_ok w g zv⟩
      · cases h
    · cases h
def aMk (r : Option AV) : Bool := match r with
  | none => true
  | some (.it _ _) => true
  | _ => false
theorem does_makeMap {o : Oper} {e : Env} {S : Store} {t : TypeId} {r : Option Operand} (ho : o.op = .makeMap t r) (hm : (mapOf P t).isSome = true) (h : aMk (r.map (ev e)) = true) : Does P o e S (.mp S.length) (S ++ [.map []]) :=
  does_value fun ρ w g hw hr => by
    obtain ⟨⟨q, z⟩, hm⟩ := Option.isSome_iff_exists.1 hm
    obtain ⟨kt, et, d, i, zv, hmt, hkd, hi, hz, rfl, hkey⟩ := mapOf_spec hm
    have hrun : (Instr.makeMap t (r.map ρ)).run P w = .ok (.map (some w.heap.size)) (w.alloc (.map #[] 0)) := by
      cases r with
      | none => exact run_makeMap t w
      | some x =>
        have hx := hr x (by rw [ho]; simp [Op.operands])
        have : ∃ k n, ev e x = .it k n := by
          simp only [Option.map_some] at h
          generalize ev e x = u at h
          cases u <;> first | exact ⟨_, _, rfl⟩ | cases h
        obtain ⟨k, n, hxe⟩ := this
        rw [hxe] at hx
        simp only [Option.map_some]
        generalize ρ x = cx at hx
        cases hx
        simp [Instr.makeMap, run_underlying hmt, asInt, asIntOf, newObj, Result.andThen]
        rfl
    have hn := hw.nid
    obtain ⟨h1, h2⟩ := hw.alloc_push (.map #[] 0) false 0 0 0 (o := .map []) (by
      refine ⟨by simp [Gh.push], by simp [Gh.push], by simp [Gh.push], #[], 0, ?_, rfl, by simp, by simp, by simp⟩
      simp only [Gh.push, if_true]
      exact heap_alloc_new w _)
    refine ⟨.map (some w.heap.size), _, _, ?_, h1, ?_, h2⟩
    · unfold execOp
      simp only [ho, Sem.run_bind, hrun, Result.andThen_ok, Sem.run_pure]
    · have := Rel.mp (w := w.alloc (.map #[] 0)) (g.push w.heap.size false 0 0 0) S.length (by simp only [Gh.push]; omega) (by simp [Gh.push, hn])
      have e : (g.push w.heap.size false 0 0 0).pl S.length = w.heap.size := by simp [Gh.push, hn]
      rw [e] at this
      exact this
def aMapSet (m : Option (Option IntKind × AV)) (S : Store) (x k v : AV) : Option Store :=
  match m, x with
  | some (q, _), .mp l => match S[l]? with
    | some (.map es) => if kok q k = true then match kfind k es 0 with
        | some (some (i, _)) => some (S.set l (.map (es.set i (k, v))))
        | some none => some (S.set l (.map (es ++ [(k, v)])))
        | none => none
      else none
    | _ => none
  | _, _ => none
theorem heap_setObj {w : World} {b r : Nat} {ob : Obj} (h : b ≠ r) : ({ w with heap := w.heap.setIfInBounds r ob } : World).heap[b]? = w.heap[b]? := by
  simp [Ne.symm h]
theorem Le.setObj {w : World} {g : Gh} {r : Nat} (h0 : g.G r = 0) (ob : Obj) : Le w g { w with heap := w.heap.setIfInBounds r ob } g := by
  refine ⟨fun b' o v hb hv => ?_, fun _ _ _ h _ => h, Nat.le_refl _, fun _ _ => ⟨rfl, .inl ⟨rfl, rfl, rfl⟩⟩⟩
  have hne : b' ≠ r := fun e => by subst e; omega
  rw [World.cell?_of_block (w := w) (heap_setObj hne)]
  exact hv
/-- the object of number l written anew -/
theorem WF.put {w : World} {g : Gh} {S : Store} {l : Nat} {o : SObj} {ob : Obj} (hw : WF w g S) (hl : l < S.length) (hown : g.own l (g.pl l)) (hG : g.G (g.pl l) = 0)
    (hobj : ObjOk { w with heap := w.heap.setIfInBounds (g.pl l) ob } g l o) : WF { w with heap := w.heap.setIfInBounds (g.pl l) ob } g (S.set l o) ∧ Evo w g { w with heap := w.heap.setIfInBounds (g.pl l) ob } g := by
  have hn := hw.nid
  have hle := Le.setObj (w := w) hG ob
  refine ⟨hw.touch hl hle rfl (fun _ _ _ => ⟨rfl, rfl, rfl, rfl, rfl⟩) (fun b hb => .inl hb) (by simp) (fun _ _ _ => rfl) (fun b _ hno => heap_setObj fun e => hno (by rw [e]; exact hown)) hobj,
    ⟨hle, rfl, rfl, rfl, by simp, fun b _ hno => heap_setObj fun e => hno l (by omega) (by rw [e]; exact hown), fun _ _ hk hb _ => ⟨hk, hb⟩, fun _ _ _ => rfl⟩⟩
theorem does_mapSet {o : Oper} {e : Env} {S S' : Store} {t : TypeId} {x k v : Operand} (ho : o.op = .mapUpdate t x k v ∨ o.op = .insert t x k v) (h : aMapSet (mapOf P t) S (ev e x) (ev e k) (ev e v) = some S') : Does P o e S .junk S' :=
  does_skip fun ρ w g hw hr => by
    have hmem : x ∈ o.op.operands.toList ∧ k ∈ o.op.operands.toList ∧ v ∈ o.op.operands.toList := by rcases ho with ho | ho <;> rw [ho] <;> simp [Op.operands]
    have hx := hr x hmem.1
    have hk := hr k hmem.2.1
    have hv := hr v hmem.2.2
    suffices H : ∃ w' g', (Instr.mapUpdate t (ρ x) (ρ k) (ρ v)).run P w = .ok () w' ∧ WF w' g' S' ∧ Evo w g w' g' by
      obtain ⟨w', g', h1, h2, h3⟩ := H
      refine ⟨w', g', ?_, h2, h3⟩
      unfold execOp
      rcases ho with ho | ho <;> simp only [ho, Sem.run_bind, h1, Result.andThen_ok, Sem.run_pure] <;> rfl
    unfold aMapSet at h
    split at h
    · rename_i q z l hm hxe
      obtain ⟨kt, et, d, i, zv, hmt, hkd, hi, hz, rfl, hkey⟩ := mapOf_spec hm
      rw [hxe] at hx
      generalize ρ x = cx at hx
      cases hx
      split at h
      · rename_i es hS
        have hl := (List.getElem?_eq_some_iff.1 hS).1
        obtain ⟨hb, hown, hG, me, clock, hheap, hsz, hlt, hnd, hrel⟩ := hw.obj l _ hS
        have hplt : g.pl l < w.heap.size := (Array.getElem?_eq_some_iff.1 hheap).1
        split at h
        · rename_i hkok
          have hik := hkey w g _ _ hkok hk
          have hck : (Instr.checkKey false 10000 kt (ρ k)).run P w = .ok () w := run_checkKey (P := P) (w := w) hkd hik false 9999
          split at h
          · rename_i i' v' hf
            cases h
            rcases kfind_ok hk hik es me.toList 0 _ (by simpa using hsz) (fun j u x hu hx => hrel j u x hu (by simpa using hx)) hf with ⟨h3, _⟩ | ⟨j, u, x', h2, h3, h4, h5, h6, h7⟩
            · cases h3
            cases h2
            rw [Nat.zero_add] at h5 ⊢
            have h4 : me[j]? = some x' := by simpa using h4
            have hfk := run_findKey (P := P) (w := w) hkd h5
            have hst := run_keyThatStays (P := P) (w := w) hik
            have hjs : j < me.size := (Array.getElem?_eq_some_iff.1 h4).1
            obtain ⟨q1, q2⟩ := hw.put (o := .map (es.set j (ev e k, ev e v))) (ob := .map (me.modify j fun e => { e with key := ρ k, val := ρ v }) clock) hl hown hG (by
              have hle := Le.setObj (w := w) hG (.map (me.modify j fun e => { e with key := ρ k, val := ρ v }) clock)
              refine ⟨hb, hown, hG, me.modify j fun e => { e with key := ρ k, val := ρ v }, clock, by simp [hplt], by simp [hsz], ?_, ?_, ?_⟩
              · intro y hy
                obtain ⟨j', hj'⟩ := List.mem_iff_getElem?.1 hy
                have hj' : (me.modify j fun e => { e with key := ρ k, val := ρ v })[j']? = some y := by rw [← Array.getElem?_toList]; exact hj'
                rw [Array.getElem?_modify] at hj'
                split at hj'
                · obtain ⟨y', h8, rfl⟩ := Option.map_eq_some_iff.1 hj'
                  exact hlt y' (by rw [Array.mem_toList_iff]; exact Array.mem_of_getElem? h8)
                · exact hlt y (by rw [Array.mem_toList_iff]; exact Array.mem_of_getElem? hj')
              · have : (me.modify j fun e => { e with key := ρ k, val := ρ v }).toList.map (·.born) = me.toList.map (·.born) := by
                  refine List.ext_getElem? fun j' => ?_
                  rw [List.getElem?_map, List.getElem?_map]
                  have : (me.modify j fun e => { e with key := ρ k, val := ρ v }).toList[j']? = (me.modify j fun e => { e with key := ρ k, val := ρ v })[j']? := Array.getElem?_toList
                  rw [this, Array.getElem?_modify]
                  split
                  · simp [Option.map_map, Function.comp_def]
                  · simp
                rw [this]; exact hnd
              · intro j' u' y hu hy
                rw [Array.getElem?_modify] at hy
                split at hy
                · rename_i hjj
                  subst hjj
                  rw [h4] at hy
                  cases hy
                  rw [List.getElem?_set_self (by omega)] at hu
                  cases hu
                  exact ⟨hk.le hle, hv.le hle⟩
                · rename_i hjj
                  rw [List.getElem?_set_ne hjj] at hu
                  exact ⟨(hrel j' u' y hu hy).1.le hle, (hrel j' u' y hu hy).2.le hle⟩)
            refine ⟨_, g, ?_, q1, q2⟩
            have e5 : ((me[j]?).map (·.key)).getD (ρ k) = ρ k := by rw [h4]; exact h6.symm
            simp only [Instr.mapUpdate, Sem.run_bind, run_underlying hmt, Result.andThen_ok, Go.MapKept.run_getObj_map hheap, hck, hfk, e5, hst, Go.MapKept.run_setObj_map _ hheap]
          · rename_i hf
            cases h
            rcases kfind_ok hk hik es me.toList 0 _ (by simpa using hsz) (fun j u x hu hx => hrel j u x hu (by simpa using hx)) hf with ⟨_, h5⟩ | ⟨j, u, x', h2, _⟩
            · have hfk := run_findKey (P := P) (w := w) hkd h5
              obtain ⟨q1, q2⟩ := hw.put (o := .map (es ++ [(ev e k, ev e v)])) (ob := .map (me.push { key := ρ k, val := ρ v, born := clock }) (clock + 1)) hl hown hG (by
                have hle := Le.setObj (w := w) hG (.map (me.push { key := ρ k, val := ρ v, born := clock }) (clock + 1))
                refine ⟨hb, hown, hG, me.push { key := ρ k, val := ρ v, born := clock }, clock + 1, by simp [hplt], by simp [hsz], ?_, ?_, ?_⟩
                · intro y hy
                  simp only [Array.toList_push, List.mem_append, List.mem_singleton] at hy
                  rcases hy with hy | rfl
                  · exact Nat.lt_succ_of_lt (hlt y hy)
                  · exact Nat.lt_succ_self _
                · rw [Array.toList_push, List.map_append, List.nodup_append]
                  refine ⟨hnd, by simp, fun a ha b hb hab => ?_⟩
                  obtain ⟨y, hy, rfl⟩ := List.mem_map.1 ha
                  simp only [List.map_cons, List.map_nil, List.mem_singleton] at hb
                  have := hlt y hy
                  omega
                · intro j u y hu hy
                  rw [Array.getElem?_push] at hy
                  split at hy
                  · rename_i hj
                    cases hy
                    rw [hj, hsz, List.getElem?_append_right (Nat.le_refl _), Nat.sub_self] at hu
                    cases hu
                    exact ⟨hk.le hle, hv.le hle⟩
                  · have hj : j < es.length := by have := (Array.getElem?_eq_some_iff.1 hy).1; omega
                    rw [List.getElem?_append_left hj] at hu
                    exact ⟨(hrel j u y hu hy).1.le hle, (hrel j u y hu hy).2.le hle⟩)
              refine ⟨_, g, ?_, q1, q2⟩
              simp only [Instr.mapUpdate, Sem.run_bind, run_underlying hmt, Result.andThen_ok, Go.MapKept.run_getObj_map hheap, hck, hfk, Go.MapKept.run_setObj_map _ hheap]
            · cases h2
          · cases h
        · cases h
      · cases h
    · cases h
/- iteration over strings -/
def aRange (kd : Kd) (S : Store) (x : AV) : Option (AV × Store) :=
  match kd, x with
  | .str, .st l => some (.ptr S.length 0, S ++ [.siter l 0])
  | _, _ => none
theorem does_range {o : Oper} {e : Env} {S S' : Store} {v : AV} {t : TypeId} {x : Operand} (ho : o.op = .range t x) (h : aRange (kdOf P t) S (ev e x) = some (v, S')) : Does P o e S v S' :=
  does_value fun ρ w g hw hr => by
    have hx := hr x (by rw [ho]; simp [Op.operands])
    unfold aRange at h
    split at h
    · rename_i l hkd hxe
      cases h
      rw [hxe] at hx
      generalize hcx : ρ x = cx at hx
      cases hx
      have hn := hw.nid
      obtain ⟨h1, h2⟩ := hw.alloc_push (.stringIter ⟨l.toArray⟩ 0) false 0 0 0 (o := .siter l 0) (by
        refine ⟨by simp [Gh.push], by simp [Gh.push], by simp [Gh.push], ?_⟩
        simp only [Gh.push, if_true]
        exact heap_alloc_new w _)
      refine ⟨.pointer (some ⟨w.heap.size, 0, none⟩), _, _, ?_, h1, ?_, h2⟩
      · unfold execOp
        simp only [ho, hcx, Instr.range, Sem.run_bind, run_underlying (kd_str hkd), Result.andThen_ok, Sem.run_pure, newObj, Sem.run]
        rfl
      · have := Rel.ptr (w := w.alloc (.stringIter ⟨l.toArray⟩ 0)) (g.push w.heap.size false 0 0 0) S.length 0 (by simp only [Gh.push]; omega) (by simp [Gh.push, hn])
        have e : (g.push w.heap.size false 0 0 0).pl S.length = w.heap.size := by simp [Gh.push, hn]
        rw [e] at this
        exact this
    · cases h
/-- the character at a place of a string, and how many bytes it takes -/
def runeAt (l : List UInt8) (pos : Nat) : Nat × Nat := Utf8.decode ⟨l.toArray⟩ pos
def aNext (S : Store) (x : AV) (isS : Bool) : Option (AV × Store) :=
  match x, isS with
  | .ptr l 0, true => match S[l]? with
    | some (.siter s pos) => if pos < s.length then some (.tup [.bo true, .it .i64 pos, .it .i32 ((runeAt s pos).1 : Int)], S.set l (.siter s (pos + (runeAt s pos).2))) else some (.tup [.bo false], S)
    | _ => none
  | _, _ => none
theorem does_next {o : Oper} {e : Env} {S S' : Store} {v : AV} {x : Operand} {isS : Bool} (ho : o.op = .next x isS) (h : aNext S (ev e x) isS = some (v, S')) : Does P o e S v S' :=
  does_value fun ρ w g hw hr => by
    have hx := hr x (by rw [ho]; simp [Op.operands])
    unfold aNext at h
    split at h
    · rename_i l hxe
      rw [hxe] at hx
      generalize hcx : ρ x = cx at hx
      cases hx
      split at h
      · rename_i s pos hS
        have hl := (List.getElem?_eq_some_iff.1 hS).1
        obtain ⟨hb, hown, hG, hheap⟩ := hw.obj l _ hS
        have hplt : g.pl l < w.heap.size := (Array.getElem?_eq_some_iff.1 hheap).1
        have hget : (getObj (g.pl l)).run P w = .ok (.stringIter ⟨s.toArray⟩ pos) w := by simp [getObj, Sem.run, hheap]
        have hsz : (⟨s.toArray⟩ : ByteArray).size = s.length := by simp [ByteArray.size]
        split at h
        · rename_i hlt
          cases h
          obtain ⟨q1, q2⟩ := hw.put (o := .siter s (pos + (runeAt s pos).2)) (ob := .stringIter ⟨s.toArray⟩ (pos + (runeAt s pos).2)) hl hown hG (by
            refine ⟨hb, hown, hG, by simp [hplt]⟩)
          refine ⟨.tuple #[.bool true, .int .i64 pos, .int .i32 ((runeAt s pos).1 : Int)], _, g, ?_, q1, ?_, q2⟩
          · have hset : ∀ ob, (setObj (g.pl l) ob).run P w = .ok () { w with heap := w.heap.setIfInBounds (g.pl l) ob } := fun ob => by simp [setObj, Sem.run, hheap]
            have hrun : ∀ ty, (Instr.next (.pointer (some ⟨g.pl l, 0, none⟩)) true ty).run P w = .ok (.tuple #[.bool true, .int .i64 pos, .int .i32 ((runeAt s pos).1 : Int)]) { w with heap := w.heap.setIfInBounds (g.pl l) (.stringIter ⟨s.toArray⟩ (pos + (runeAt s pos).2)) } := fun ty => by
              simp only [Instr.next, Sem.run_bind, hget, Result.andThen_ok, hsz, hlt, if_true]
              simp only [runeAt, hset, Sem.run_bind, Result.andThen_ok, Sem.run_pure, goInt]
            unfold execOp
            simp only [ho, hcx, Sem.run_bind, hrun, Result.andThen_ok, Sem.run_pure]
          · refine .tup _ _ _ rfl fun j u v hu hv => ?_
            match j with
            | 0 => cases hu; cases hv; exact .bo _ _
            | 1 => cases hu; cases hv; exact .it _ _ _
            | 2 => cases hu; cases hv; exact .it _ _ _
            | j + 3 => simp at hu
        · rename_i hlt
          cases h
          refine ⟨.tuple #[.bool false], w, g, ?_, hw, ?_, Evo.refl w g⟩
          · have hrun : ∀ ty, (Instr.next (.pointer (some ⟨g.pl l, 0, none⟩)) true ty).run P w = .ok (.tuple #[.bool false]) w := fun ty => by
              simp only [Instr.next, Sem.run_bind, hget, Result.andThen_ok, hsz, hlt, if_false, Sem.run_pure]
            unfold execOp
            simp only [ho, hcx, Sem.run_bind, hrun, Result.andThen_ok, Sem.run_pure]
          · refine .tup _ _ _ rfl fun j u v hu hv => ?_
            match j with
            | 0 => cases hu; cases hv; exact .bo _ _
            | j + 1 => simp at hu
      · cases h
    · cases h
end
end Go.Proofs.Ytknbnhmenohacaa.Pe
