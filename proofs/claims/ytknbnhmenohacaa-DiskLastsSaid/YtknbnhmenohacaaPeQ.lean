/- Rules by which simp steps through a function's text on plain values. Nothing of the program. -/
import Derived.Test.YtknbnhmenohacaaPeP
namespace Go.Proofs.Ytknbnhmenohacaa.Pe
set_option linter.unusedSectionVars false
set_option linter.unusedVariables false
set_option linter.unusedSimpArgs false
open Go Go.RowKit
variable [Tab]
def condP (v : AV) (X Y : Prop) : Prop :=
  match v with
  | .bo b => iteP b X Y
  | _ => False
@[congr] theorem condP_congr {v u : AV} (X Y : Prop) (h : v = u) : condP v X Y = condP u X Y := by rw [h]
theorem condP_bo (b : Bool) (X Y : Prop) : condP (.bo b) X Y = iteP b X Y := rfl
def fnP (P : Program) (pf rf : List FuncId) (t : Nat) (v : AV) (args : List AV) (S : Store) (K : AV → Store → Prop) : Prop :=
  match v with
  | .fn (.func f) fa ca => callP (ACallT P pf rf (.tmp t) f (fa ++ args ++ ca) S) K
  | _ => False
@[congr] theorem fnP_congr {P : Program} {pf rf : List FuncId} {t : Nat} {v u : AV} (args : List AV) (S : Store) (K : AV → Store → Prop) (h : v = u) : fnP P pf rf t v args S K = fnP P pf rf t u args S K := by rw [h]
theorem fnP_fn (P : Program) (pf rf : List FuncId) (t : Nat) (f : FuncId) (fa ca args : List AV) (S : Store) (K : AV → Store → Prop) : fnP P pf rf t (.fn (.func f) fa ca) args S K =
    callP (if pf.contains (t + 1000000) then PureC P f (fa ++ args ++ ca) S else if rf.contains (t + 1000000) then ReadC P f (fa ++ args ++ ca) S else ACall P pf rf f (fa ++ args ++ ca) S) K := rfl
/- what simp does not step into -/
def AWs (P : Program) (pf rf : List FuncId) (N0 : Nat) (c : CC) (Q : AX → Env → Store → Prop) (e : Env) (S : Store) : Prop := AW P pf rf N0 c Q e S
def ARgs (P : Program) (pf rf : List FuncId) (l : List AO) (e : Env) (S : Store) (K : Env → Store → Prop) : Prop := ARg P pf rf l e S K
def AOps (P : Program) (pf rf : List FuncId) (op : Op) (e : Env) (S : Store) (K : AV → Store → Prop) : Prop := AOp P pf rf op e S K
def convP (k : Kd) (X Y : Unit → Prop) : Prop :=
  match k with
  | .bytes => X ()
  | _ => Y ()
@[congr] theorem convP_congr {k k' : Kd} (X Y : Unit → Prop) (h : k = k') : convP k X Y = convP k' X Y := by rw [h]
theorem convP_bytes (X Y : Unit → Prop) : convP .bytes X Y = X () := rfl
theorem convP_int (k : IntKind) (X Y : Unit → Prop) : convP (.int k) X Y = Y () := rfl
theorem convP_str (X Y : Unit → Prop) : convP .str X Y = Y () := rfl
/-- what follows an operation: simp steps into it when it is applied -/
def ARgk (P : Program) (pf rf : List FuncId) (d : Option Nat) (rest : List AO) (e : Env) (K : Env → Store → Prop) : AV → Store → Prop := fun v S' => ARg P pf rf rest (put e d v) S' K
def pickP (v x y : AV) (K : AV → Prop) : Prop :=
  match v with
  | .bo t => K (if t then x else y)
  | _ => False
section
variable (P : Program) (pf rf : List FuncId) (N0 : Nat) (Q : AX → Env → Store → Prop) (next : Env → Store → Prop) (e : Env) (S : Store) (K : AV → Store → Prop)
theorem AW_skip : AW P pf rf N0 .skip Q e S = Q .norm e S := rfl
theorem AW_reg (l : List AO) : AW P pf rf N0 (.reg l) Q e S = ARg P pf rf l e S (Q .norm) := rfl
theorem AW_seq (a b : CC) : AW P pf rf N0 (.seq a b) Q e S = AW P pf rf N0 a (thenQ Q (AW P pf rf N0 b Q)) e S := rfl
theorem AW_cond (c : Operand) (t f : CC) : AW P pf rf N0 (.cond c t f) Q e S = condP (ev e c) (AWs P pf rf N0 t Q e S) (AWs P pf rf N0 f Q e S) := rfl
theorem AW_block (id : Nat) (b : CC) : AW P pf rf N0 (.block id b) Q e S = AW P pf rf N0 b (blockQ id Q) e S := rfl
theorem AW_loop (b : CC) : AW P pf rf N0 (.loop b) Q e S = ALoop N0 (AW P pf rf N0 b) Q e S := rfl
theorem AW_exit (id : Nat) : AW P pf rf N0 (.exit id) Q e S = Q (.exit id) e S := rfl
theorem AW_ret : AW P pf rf N0 .ret Q e S = Q .ret e S := rfl
theorem thenQ_norm : thenQ Q next .norm e S = next e S := rfl
theorem thenQ_ret : thenQ Q next .ret e S = Q .ret e S := rfl
theorem thenQ_exit (id : Nat) : thenQ Q next (.exit id) e S = Q (.exit id) e S := rfl
theorem blockQ_norm (id : Nat) : blockQ id Q .norm e S = Q .norm e S := rfl
theorem blockQ_ret (id : Nat) : blockQ id Q .ret e S = Q .ret e S := rfl
theorem blockQ_same (id : Nat) : blockQ id Q (.exit id) e S = Q .norm e S := by simp [blockQ]
theorem blockQ_exit (id i : Nat) : blockQ id Q (.exit i) e S = if i = id then Q .norm e S else Q (.exit i) e S := by
  show (if i = id then Q .norm else Q (.exit i)) e S = _
  split <;> rfl
theorem ARg_nil (K : Env → Store → Prop) : ARg P pf rf [] e S K = K e S := rfl
theorem ARg_cons (d : Option Nat) (op : Op) (rest : List AO) (K : Env → Store → Prop) : ARg P pf rf (⟨d, op, none⟩ :: rest) e S K = AOp P pf rf op e S (ARgk P pf rf d rest e K) := by
  show iteP true _ _ = _
  rw [iteP_true]
  rfl
theorem ARg_guard (d : Option Nat) (op : Op) (gd : Option Nat × Bool) (rest : List AO) (K : Env → Store → Prop) : ARg P pf rf (⟨d, op, some gd⟩ :: rest) e S K =
    bindO (aGd (some gd) e) fun b => iteP b (AOps P pf rf op e S (ARgk P pf rf d rest e K)) (ARgs P pf rf rest (put e d (.tup [])) S K) := rfl
theorem AWs_eq (c : CC) : AWs P pf rf N0 c Q e S = AW P pf rf N0 c Q e S := rfl
theorem ARgs_eq (l : List AO) (K : Env → Store → Prop) : ARgs P pf rf l e S K = ARg P pf rf l e S K := rfl
theorem AOps_eq (op : Op) : AOps P pf rf op e S K = AOp P pf rf op e S K := rfl
theorem iteP_trueW (c : CC) (Y : Prop) : iteP true (AWs P pf rf N0 c Q e S) Y = AW P pf rf N0 c Q e S := iteP_true _ _
theorem iteP_falseW (c : CC) (X : Prop) : iteP false X (AWs P pf rf N0 c Q e S) = AW P pf rf N0 c Q e S := iteP_false _ _
theorem iteP_trueO (op : Op) (Y : Prop) : iteP true (AOps P pf rf op e S K) Y = AOp P pf rf op e S K := iteP_true _ _
theorem iteP_falseR (l : List AO) (K : Env → Store → Prop) (X : Prop) : iteP false X (ARgs P pf rf l e S K) = ARg P pf rf l e S K := iteP_false _ _
theorem ARgk_apply (d : Option Nat) (rest : List AO) (K : Env → Store → Prop) (v : AV) : ARgk P pf rf d rest e K v S = ARg P pf rf rest (put e d v) S K := rfl
theorem AOp_move (x : Operand) : AOp P pf rf (.move x) e S K = K (ev e x) S := rfl
theorem AOp_assign (x : Operand) : AOp P pf rf (.assign x) e S K = K (ev e x) S := rfl
theorem AOp_load (t : TypeId) (x : Operand) : AOp P pf rf (.load t x) e S K = bindO (aLoad (szOf P t) S (ev e x)) fun v => K v S := rfl
theorem AOp_store (t : TypeId) (x y : Operand) : AOp P pf rf (.store t x y) e S K = bindO (aStore (szOf P t) S (ev e x) (ev e y)) fun S' => K .junk S' := rfl
theorem AOp_box (t : TypeId) (x : Operand) : AOp P pf rf (.box t x) e S K = bindO (if (ev e x).solid = true then some (ev e x).cells else none) fun cs => K (.ptr S.length 0) (S ++ [.cells cs]) := rfl
theorem AOp_alloc (t : TypeId) : AOp P pf rf (.alloc t) e S K = bindO (zerOf P t) fun z => K (.ptr S.length 0) (S ++ [.cells z]) := rfl
theorem AOp_lit (t : TypeId) (n : Nat) (parts : Array (Nat × Operand)) : AOp P pf rf (.buildSlice t n parts) e S K = bindO (aLits P t n (parts.toList.map fun p => (p.1, ev e p.2))) fun v => K v S := rfl
theorem AOp_make (t : TypeId) (x y : Operand) : AOp P pf rf (.makeSlice t x y) e S K = bindO (orO (aMake P t (ev e x) (ev e y) S) (aMakeW P t (ev e x) (ev e y) S)) fun r => K r.1 r.2 := rfl
theorem AOp_mkMap (t : TypeId) (r : Option Operand) : AOp P pf rf (.makeMap t r) e S K = bindO (okO ((mapOf P t).isSome && aMk (r.map (ev e)))) fun _ => K (.mp S.length) (S ++ [.map []]) := rfl
theorem AOp_insert (t : TypeId) (m k v : Operand) : AOp P pf rf (.insert t m k v) e S K = bindO (aMapSet (mapOf P t) S (ev e m) (ev e k) (ev e v)) fun S' => K .junk S' := rfl
theorem AOp_mapUpd (t : TypeId) (m k v : Operand) : AOp P pf rf (.mapUpdate t m k v) e S K = bindO (aMapSet (mapOf P t) S (ev e m) (ev e k) (ev e v)) fun S' => K .junk S' := rfl
theorem AOp_lookup (t : TypeId) (x k : Operand) (b : Bool) : AOp P pf rf (.lookup t x k b) e S K = bindO (aLook (mapOf P t) S (ev e x) (ev e k) b) fun v => K v S := rfl
theorem AOp_range (t : TypeId) (x : Operand) : AOp P pf rf (.range t x) e S K = bindO (aRange (kdOf P t) S (ev e x)) fun r => K r.1 r.2 := rfl
theorem AOp_next (x : Operand) (b : Bool) : AOp P pf rf (.next x b) e S K = bindO (aNext S (ev e x) b) fun r => K r.1 r.2 := rfl
theorem aSet_nil (cs : List AV) : aSet cs 0 [] = cs := by simp [aSet]
theorem aSet_zero (c u : AV) (cs us : List AV) : aSet (c :: cs) 0 (u :: us) = u :: aSet cs 0 us := by simp [aSet, Nat.add_comm]
theorem aSet_succ (c : AV) (cs us : List AV) (n : Nat) : aSet (c :: cs) (n + 1) us = c :: aSet cs n us := by simp [aSet, Nat.succ_add]
theorem aSet_map {α : Type} (f : α → AV) (l : List α) (i : Nat) (x : α) (h : i < l.length) : aSet (l.map f) i [f x] = (l.set i x).map f := by
  simp only [aSet, List.length_cons, List.length_nil]
  rw [List.set_eq_take_append_cons_drop, if_pos h]
  simp
theorem aSet_st (l : List (List UInt8)) (i : Nat) (x : List UInt8) (h : i < l.length) : aSet (l.map .st) i [.st x] = (l.set i x).map .st := aSet_map .st l i x h
/-- a condition that does not hold -/
theorem iteN {α : Type} {c : Prop} [Decidable c] (x : α) (h : ¬ c) : (if c then some x else none) = none := if_neg h
theorem AOp_conv (s d : TypeId) (x : Operand) : AOp P pf rf (.convert s d x) e S K = convP (kdOf P d) (fun _ => bindO (aBytes P s d (ev e x) S) fun r => K r.1 r.2) (fun _ => bindO (aConv P s d (ev e x)) fun v => K v S) := by
  show (match kdOf P d with | .bytes => _ | _ => _) = _
  unfold convP
  split <;> rfl
theorem AOp_func (f : FuncId) (args : Array Operand) (ts : Array TypeId) : AOp P pf rf (.call { callee := .value (.func f), args := args, argTypes := ts }) e S K = callP (ACall P pf rf f (args.toList.map (ev e)) S) K := by
  show callP (ACall P pf rf f ([] ++ args.toList.map (ev e) ++ []) S) K = _
  rw [List.nil_append, List.append_nil]
theorem AOp_tmp (t : Nat) (args : Array Operand) (ts : Array TypeId) : AOp P pf rf (.call { callee := .value (.tmp t), args := args, argTypes := ts }) e S K = fnP P pf rf t (e t) (args.toList.map (ev e)) S K := by
  show (match ev e (.tmp t) with | .fn (.func f) fa ca => callP (ACallT P pf rf (.tmp t) f (fa ++ args.toList.map (ev e) ++ ca) S) K | _ => False) = _
  unfold fnP
  rfl
theorem AOp_append (x y : Operand) (t u : TypeId) : AOp P pf rf (.call { callee := .builtin .append, args := #[x, y], argTypes := #[t, u] }) e S K = bindO (aApp P t u S (ev e x) (ev e y)) fun r => K r.1 r.2 := rfl
theorem AOp_len (args : Array Operand) (ts : Array TypeId) : AOp P pf rf (.call { callee := .builtin .len, args := args, argTypes := ts }) e S K = bindO (aBui P .len ts (args.toList.map (ev e))) fun v => K v S := rfl
theorem AOp_min (args : Array Operand) (ts : Array TypeId) : AOp P pf rf (.call { callee := .builtin .min, args := args, argTypes := ts }) e S K = bindO (aBui P .min ts (args.toList.map (ev e))) fun v => K v S := rfl
theorem AOp_max (args : Array Operand) (ts : Array TypeId) : AOp P pf rf (.call { callee := .builtin .max, args := args, argTypes := ts }) e S K = bindO (aBui P .max ts (args.toList.map (ev e))) fun v => K v S := rfl
theorem AOp_pick (c x y : Operand) : AOp P pf rf (.pick c x y) e S K = pickP (ev e c) (ev e x) (ev e y) fun v => K v S := rfl
theorem AOp_nil (x : Operand) : AOp P pf rf (.nilCheck x) e S K = bindO (aNil (ev e x)) fun v => K v S := rfl
theorem AOp_bin (op : BinOp) (t t' : TypeId) (x y : Operand) : AOp P pf rf (.binOp op t x y t') e S K = bindO (aBin P op t (ev e x) (ev e y)) fun v => K v S := rfl
theorem AOp_un (op : UnOp) (t : TypeId) (x : Operand) : AOp P pf rf (.unOp op t x) e S K = bindO (aUn op (ev e x)) fun v => K v S := rfl
theorem AOp_fn (f : Fn) (a b : Array Operand) : AOp P pf rf (.makeFunc f a b) e S K = K (.fn f (a.toList.map (ev e)) (b.toList.map (ev e))) S := rfl
theorem AOp_slice (t : TypeId) (x : Operand) (lo hi mx : Option Operand) : AOp P pf rf (.slice t x lo hi mx) e S K = bindO (aSlice P t (ev e x) (lo.map (ev e)) (hi.map (ev e)) (mx.map (ev e))) fun v => K v S := rfl
theorem AOp_fieldAddr (t : TypeId) (x : Operand) (f : Nat) : AOp P pf rf (.fieldAddr t x f) e S K = bindO (aFldAddr (fldOf P t f) (ev e x)) fun v => K v S := rfl
theorem AOp_field (t : TypeId) (x : Operand) (f : Nat) : AOp P pf rf (.field t x f) e S K = bindO (aFld (fldOf P t f) (ev e x)) fun v => K v S := rfl
theorem AOp_indexAddr (t : TypeId) (x i : Operand) : AOp P pf rf (.indexAddr t x i) e S K = bindO (aIdxAddr P t (ev e x) (ev e i)) fun v => K v S := rfl
theorem AOp_index (t : TypeId) (x i : Operand) : AOp P pf rf (.index t x i) e S K = bindO (aIdx P t (ev e x) (ev e i)) fun v => K v S := rfl
theorem AOp_extract (t : Operand) (i : Nat) : AOp P pf rf (.extract t i) e S K = bindO (aval P e (.extract t i)) fun v => K v S := rfl
theorem AOp_build (t : TypeId) (parts : Array (Nat × Operand)) : AOp P pf rf (.build t parts) e S K = bindO (aval P e (.build t parts)) fun v => K v S := rfl
theorem pickP_bo (b : Bool) (x y : AV) (K : AV → Prop) : pickP (.bo b) x y K = K (if b then x else y) := rfl
theorem ev_tmp (t : Nat) : ev e (.tmp t) = e t := rfl
theorem ev_const (v : Value) : ev e (.const v) = cst v := rfl
theorem ev_global (g : Nat) : ev e (.global g) = .ot (.pointer (some ⟨g, 0, none⟩)) := rfl
theorem ev_func (f : FuncId) : ev e (.func f) = .fn (.func f) [] [] := rfl
theorem put_some (d : Nat) (v : AV) : put e (some d) v = upd e d v := rfl
theorem put_none (v : AV) : put e none v = e := rfl
theorem upd_apply (d t : Nat) (v : AV) : upd e d v t = if t = d then v else e t := rfl
theorem argEnv_zero (a : AV) (l : List AV) : argEnv (a :: l) 0 = a := rfl
theorem argEnv_succ (a : AV) (l : List AV) (n : Nat) : argEnv (a :: l) (n + 1) = argEnv l n := rfl
theorem cst_bool (b : Bool) : cst (.bool b) = .bo b := rfl
theorem cst_int (k : IntKind) (n : Int) : cst (.int k n) = .it k n := rfl
theorem cst_string (a : Array UInt8) : cst (.string ⟨a⟩) = .st a.toList := rfl
theorem cst_nil : cst (.slice none 0 0) = .sl .full [] := rfl
theorem cst_pnil : cst (.pointer none) = .ot (.pointer none) := rfl
theorem cst_fnil : cst .nilFunc = .ot .nilFunc := rfl
theorem cst_mnil : cst (.map none) = .ot (.map none) := rfl
theorem cst_agg (arr : Array Value) : cst (.agg arr) = if arr.toList.all (·.oneCell') then .agg (arr.toList.map cst1) else .junk := rfl
end
theorem call_mk {P : Program} {pf rf : List FuncId} {e : Env} {C : AV → Store → Prop} {d : Option Nat} {rest : List AO} {K : Env → Store → Prop} {v : AV} {S' : Store} (h : C v S') (h' : ARg P pf rf rest (put e d v) S' K) : callP C (ARgk P pf rf d rest e K) := ⟨v, S', h, h'⟩
/-- a call of a function that has nothing to do with places -/
theorem call_pure {P : Program} {pf rf : List FuncId} {e : Env} {f : FuncId} {args args' : List AV} {S : Store} {d : Option Nat} {rest : List AO} {K : Env → Store → Prop} {v : AV} (h : AC P f args' [] v []) (ha : args.map AV.wk = args') (hk : args'.all (AV.ok 0) = true) (hv : v.ok 0 = true)
    (h' : ARg P pf rf rest (put e d v) S K) : callP (PureC P f args S) (ARgk P pf rf d rest e K) := by
  subst ha
  exact ⟨v, S, ⟨h, hk, hv, rfl⟩, h'⟩
/- the end of a call -/
theorem Weak.refl (N0 : Nat) (e : Env) (S : Store) : Weak N0 e S e S := fun _ _ _ _ _ _ h => h
theorem Weak.trans {N0 : Nat} {e e' e'' : Env} {S S' S'' : Store} (h : Weak N0 e S e' S') (h' : Weak N0 e' S' e'' S'') : Weak N0 e S e'' S'' := fun N w0 g0 a w hn hc => h' N w0 g0 a w hn (h N w0 g0 a w hn hc)
theorem Rel.own_full {w : World} {g : Gh} {es : List AV} {cv : Value} {l : Nat} (h : Rel w g (.sl .full es) cv) (hl : l < g.nid) (hb : g.buf l = true) (hwm : g.wm l = es.length) : Rel w g (.sl (.own l) es) cv := by
  cases h with
  | sl _ _ _ A c sz cu hc hcm hsz hA h1 hr hm => exact .sl _ _ es A c sz cu hc hcm hsz hA h1 hr ⟨hl, hb, by omega, .inr (.inl hm)⟩
/-- a slice without room as a row of its own, kept under a new number -/
theorem Weak.reserve (N0 : Nat) {e : Env} {S : Store} (d : Nat) {es : List AV} (hd : e d = .sl .full es) (ty : TypeId) (sz : Nat) : Weak N0 e S (upd e d (.sl (.own S.length) es)) (S ++ [.buf es.length ty sz]) := by
  rintro N w0 g0 a w hn ⟨h1, h2, g, h3, h4, h5⟩
  obtain ⟨g', h6, h7, h8, h9, h10⟩ := h3.reserve es.length ty sz
  refine ⟨h1, h2, g', h6, fun t => ?_, h5.trans h7⟩
  have ht := (h4 t).le h7.toLe
  by_cases htd : t = d
  · subst htd
    rw [upd_same]
    rw [hd] at ht
    refine ht.own_full ?_ ?_ ?_
    · rw [h8, ← h3.nid]; omega
    · rw [← h3.nid]; exact h9
    · rw [← h3.nid]; exact h10
  · rw [upd_ne e htd]; exact ht
section
variable {P : Program}
theorem subOk_nil (S : Store) : SubOk [] S [] := ⟨List.nodup_nil, rfl, fun i o hi => by simp at hi⟩
/-- no places stay -/
theorem fin0 {rs : List ResultVar} {v : AV} {e : Env} {S : Store} {vs : List AV} (h : aRes P rs e S = some vs) (hk : v.ok 0 = true) (hv : resV vs = v ∨ (resV vs).wk = v) : Fin P rs 0 v [] e S := by
  refine ⟨e, S, vs, [], Weak.refl 0 e S, h, subOk_nil S, rfl, hk, ?_⟩
  rw [ren_id hk (fun i hi => absurd hi (Nat.not_lt_zero _))]
  exact hv
theorem ends_ret0 {rs : List ResultVar} {v : AV} {e : Env} {S : Store} {vs : List AV} (h : aRes P rs e S = some vs) (hk : v.ok 0 = true) (hv : resV vs = v) : finQ P rs 0 v [] .ret e S := fin0 h hk (.inl hv)
theorem ends_ret0w {rs : List ResultVar} {v : AV} {e : Env} {S : Store} {vs : List AV} (h : aRes P rs e S = some vs) (hk : v.ok 0 = true) (hv : (resV vs).wk = v) : finQ P rs 0 v [] .ret e S := fin0 h hk (.inr hv)
theorem ends_norm0 {rs : List ResultVar} {v : AV} {e : Env} {S : Store} {vs : List AV} (h : aRes P rs e S = some vs) (hk : v.ok 0 = true) (hv : resV vs = v) : finQ P rs 0 v [] .norm e S := fin0 h hk (.inl hv)
/-- places κ stay -/
theorem ends_ret {rs : List ResultVar} {v : AV} {e : Env} {S S' : Store} {vs : List AV} {N0 : Nat} (κ : List Nat) (h : aRes P rs e S = some vs) (hs : SubOk κ S S') (hn : κ.take N0 = List.range N0) (hk : v.ok κ.length = true) (hv : resV vs = v.ren (idx κ)) : finQ P rs N0 v S' .ret e S :=
  ⟨e, S, vs, κ, Weak.refl N0 e S, h, hs, hn, hk, .inl hv⟩
theorem ends_retW {rs : List ResultVar} {v : AV} {e : Env} {S S' : Store} {vs : List AV} {N0 : Nat} (e1 : Env) (S1 : Store) (hw : Weak N0 e S e1 S1) (κ : List Nat) (h : aRes P rs e1 S1 = some vs) (hs : SubOk κ S1 S') (hn : κ.take N0 = List.range N0) (hk : v.ok κ.length = true) (hv : resV vs = v.ren (idx κ)) : finQ P rs N0 v S' .ret e S :=
  ⟨e1, S1, vs, κ, hw, h, hs, hn, hk, .inl hv⟩
theorem subOk_two (k k' : Nat) {S : Store} {o o' : SObj} (hne : k ≠ k') (ho : o.ok 2 = true) (ho' : o'.ok 2 = true) (h : S[k]? = some (o.ren (idx [k, k']))) (h' : S[k']? = some (o'.ren (idx [k, k']))) : SubOk [k, k'] S [o, o'] := ⟨by simp [hne], rfl, fun i o1 hi => by
    match i, hi with
    | 0, hi => cases hi; exact ⟨ho, h⟩
    | 1, hi => cases hi; exact ⟨ho', h'⟩⟩
/-- one place stays -/
theorem subOk_one (k : Nat) {S : Store} {o : SObj} (ho : o.ok 1 = true) (h : S[k]? = some (o.ren (idx [k]))) : SubOk [k] S [o] := ⟨by simp, rfl, fun i o1 hi => by
    cases i with
    | zero => cases hi; exact ⟨ho, h⟩
    | succ i => simp at hi⟩
/-- a contract that brings one new row -/
theorem AC.fresh1 {f : FuncId} {args : List AV} {v : AV} {o : SObj} (h : AC P f args [] v [o]) (ha : args.all (AV.ok 0) = true) (hv : v.ok 1 = true) (ho : o.ok 1 = true) (T : Store) :
    AC P f args T (v.ren (fun i => T.length + i)) (T ++ [o.ren (fun i => T.length + i)]) := by
  have := h.frame (T := T) [] ⟨List.nodup_nil, rfl, fun i o hi => by simp at hi⟩ ha hv (fun i o1 hi => by
    cases i with
    | zero => cases hi; exact ho
    | succ i => simp at hi)
  rw [map_id_of ha (fun v hv => ren_id hv (fun i hi => absurd hi (Nat.not_lt_zero _)))] at this
  have e : ext [] T.length = fun i => T.length + i := by funext i; simp [ext]
  simpa [after, setAll, e] using this
end
/- a contract of one place, used within a larger store -/
theorem AC.at1 {P : Program} {f : FuncId} {args : List AV} {v : AV} {o o' : SObj} {T : Store} (h : AC P f args [o] v [o']) (l : Nat) (hl : T[l]? = some (o.ren (idx [l]))) (ha : args.all (AV.ok 1) = true) (hv : v.ok 1 = true) (ho : o.ok 1 = true) (ho' : o'.ok 1 = true) :
    AC P f (args.map (AV.ren (idx [l]))) T (v.ren (ext [l] T.length)) (T.set l (o'.ren (ext [l] T.length))) := by
  have := h.frame (T := T) [l] ⟨by simp, rfl, fun i o1 hi => by
    cases i with
    | zero => cases hi; exact ⟨ho, hl⟩
    | succ i => simp at hi⟩ ha hv (fun i o1 hi => by
    cases i with
    | zero => cases hi; exact ho'
    | succ i => simp at hi)
  simpa [after, setAll] using this
/- loops -/
theorem loop_mk {N0 : Nat} {B : (AX → Env → Store → Prop) → Env → Store → Prop} {Q : AX → Env → Store → Prop} {e : Env} {S : Store} (I : Nat → Env → Store → Prop) (n : Nat) (h0 : I n e S)
    (h : ∀ n e S, I n e S → B (thenQ Q (roundP N0 I n)) e S) : ALoop N0 B Q e S := ⟨I, ⟨n, e, S, Weak.refl N0 e S, h0⟩, h⟩
theorem loop_mk' {N0 : Nat} {B : (AX → Env → Store → Prop) → Env → Store → Prop} {Q : AX → Env → Store → Prop} {e : Env} {S : Store} (I : Nat → Env → Store → Prop) (n : Nat) (e' : Env) (S' : Store) (hw : Weak N0 e S e' S') (h0 : I n e' S')
    (h : ∀ n e S, I n e S → B (thenQ Q (roundP N0 I n)) e S) : ALoop N0 B Q e S := ⟨I, ⟨n, e', S', hw, h0⟩, h⟩
theorem round_mk {N0 : Nat} {I : Nat → Env → Store → Prop} {n : Nat} {e : Env} {S : Store} (n' : Nat) (hn : n' < n) (h : I n' e S) : roundP N0 I n e S := ⟨n', e, S, hn, Weak.refl N0 e S, h⟩
theorem round_mk' {N0 : Nat} {I : Nat → Env → Store → Prop} {n : Nat} {e : Env} {S : Store} (n' : Nat) (e' : Env) (S' : Store) (hw : Weak N0 e S e' S') (hn : n' < n) (h : I n' e' S') : roundP N0 I n e S := ⟨n', e', S', hn, hw, h⟩
theorem iteS {α : Type} {c : Prop} [Decidable c] (x : α) (h : c) : (if c then some x else none) = some x := if_pos h
theorem fits_ok {n b : Nat} (h : n * b ≤ 140737488355328) (h' : n ≤ 140737488355328) : fits n b = true := by simp [fits, h, h']
theorem dT {p : Prop} [Decidable p] (h : p) : decide p = true := decide_eq_true h
theorem dF {p : Prop} [Decidable p] (h : ¬ p) : decide p = false := decide_eq_false h
theorem beqT {a b : Int} (h : a = b) : (a == b) = true := by simp [h]
theorem beqF {a b : Int} (h : a ≠ b) : (a == b) = false := by simp [h]
theorem bneT {a b : Int} (h : a ≠ b) : (a != b) = true := by simp [h]
theorem bneF {a b : Int} (h : a = b) : (a != b) = false := by simp [h]
theorem iteP_dec {p : Prop} [Decidable p] {X Y : Prop} (h : p → X) (h' : ¬ p → Y) : iteP (decide p) X Y := ⟨fun e => h (of_decide_eq_true e), fun e => h' (of_decide_eq_false e)⟩
theorem iteP_eq {α : Type} [DecidableEq α] {a b : α} {X Y : Prop} (h : a = b → X) (h' : a ≠ b → Y) : iteP (a == b) X Y := ⟨fun e => h (by simpa using e), fun e => h' (by simpa using e)⟩
theorem iteP_ne {α : Type} [DecidableEq α] {a b : α} {X Y : Prop} (h : a ≠ b → X) (h' : a = b → Y) : iteP (a != b) X Y := ⟨fun e => h (by simpa using e), fun e => h' (by simpa using e)⟩
theorem iteP_not {b : Bool} {X Y : Prop} (h : iteP b Y X) : iteP (!b) X Y := ⟨fun e => h.2 (by simpa using e), fun e => h.1 (by simpa using e)⟩
theorem beq_t (b : Bool) : (b == true) = b := by cases b <;> rfl
theorem beq_f (b : Bool) : (b == false) = !b := by cases b <;> rfl
theorem aGd_mk (d : Nat) (want : Bool) (e : Env) (b : Bool) (h : e d = .bo b) : aGd (some (some d, want)) e = some (b == want) := by simp [aGd, h]
theorem bindO_mk {α : Type} {x : Option α} {K : α → Prop} (v : α) (h : x = some v) (h' : K v) : bindO x K := by rw [h]; exact h'
theorem allSz_map {α : Type} (sz : Nat) (f : α → AV) (h : ∀ a, (f a).cells.length = sz) (l : List α) : allSz sz (l.map f) = true := by
  simp [allSz, h]
theorem allSz_st (l : List (List UInt8)) : allSz 1 (l.map .st) = true := allSz_map 1 _ (fun _ => rfl) l
theorem allSz_u8 (l : List UInt8) : allSz 1 (l.map u8) = true := allSz_map 1 _ (fun _ => rfl) l
theorem allSz_append (sz : Nat) (l r : List AV) : allSz sz (l ++ r) = (allSz sz l && allSz sz r) := by simp [allSz]
theorem allSz_cons (sz : Nat) (v : AV) (l : List AV) : allSz sz (v :: l) = (v.cells.length == sz && allSz sz l) := rfl
theorem allSz_nil (sz : Nat) : allSz sz [] = true := rfl
theorem allSz_one (v : AV) (h : v.cells.length = 1) : allSz 1 [v] = true := by simp [allSz, h]
theorem wrap64 {n : Int} (h : -9223372036854775808 ≤ n) (h' : n ≤ 9223372036854775807) : IntKind.i64.wrap n = n := by rw [IntKind.wrap_i64]; omega
end Go.Proofs.Ytknbnhmenohacaa.Pe
