/- Arithmetic, comparisons, conversions, slicing on plain values, and that the model's operations yield them. Nothing of the program. -/
import Derived.Test.YtknbnhmenohacaaPeA
import Derived.Laws.StructEq
import Derived.Laws.Strings
import Derived.Laws.PanicsMore
namespace Go.Proofs.Ytknbnhmenohacaa.Pe
set_option linter.unusedSectionVars false
set_option linter.unusedVariables false
set_option linter.unusedSimpArgs false
open Go Go.RowKit
inductive Kd where
  | int (k : IntKind) | bool | str | bytes | ptr | fun | other
  deriving DecidableEq
def kdOf (P : Program) (t : TypeId) : Kd :=
  match P.underlying t with
  | some (.int k) => .int k
  | some .bool => .bool
  | some .string => .str
  | some (.slice e) => match P.underlying e with
    | some (.int .u8) => .bytes
    | _ => .other
  | some (.pointer _) => .ptr
  | some (.func ..) => .fun
  | _ => .other
def aInt (op : BinOp) (k : IntKind) (a b : Int) : Option AV :=
  match op with
  | .add => some (.it k (k.wrap (a + b)))
  | .sub => some (.it k (k.wrap (a - b)))
  | .mul => some (.it k (k.wrap (a * b)))
  | .quo => if b = 0 then none else some (.it k (k.wrap (a.tdiv b)))
  | .rem => if b = 0 then none else some (.it k (a.tmod b))
  | .and => some (.it k (Go.bits .and k a b))
  | .or => some (.it k (Go.bits .or k a b))
  | .xor => some (.it k (Go.bits .xor k a b))
  | .andNot => some (.it k (Go.bits .andNot k a b))
  | .eql => some (.bo (a == b))
  | .neq => some (.bo (a != b))
  | .lss => some (.bo (decide (a < b)))
  | .leq => some (.bo (decide (a ≤ b)))
  | .gtr => some (.bo (decide (a > b)))
  | .geq => some (.bo (decide (a ≥ b)))
  | _ => none
def aStr (op : BinOp) (a b : List UInt8) : Option AV :=
  match op with
  | .add => if a.length + b.length ≤ 9223372036854775807 then some (.st (a ++ b)) else none
  | .eql => some (.bo (a == b))
  | .neq => some (.bo (!(a == b)))
  | .lss => some (.bo (Op.bytesLess a b))
  | .leq => some (.bo (Op.bytesLess a b || a == b))
  | .gtr => some (.bo (!(Op.bytesLess a b || a == b)))
  | .geq => some (.bo (!Op.bytesLess a b))
  | _ => none
/-- what a struct's comparison compares: the fields' types, places, sizes -/
def eqsOf (P : Program) (t : TypeId) : Option (List (TypeId × Nat × Nat × Bool)) :=
  match P.underlying t with
  | some (.struct fs) => if P.stoodInHeld t then none else fs.toList.mapM fun f => if f.name = "_" then none else (szOf P f.type).map fun s => (f.type, f.offset, s.1, s.2)
  | _ => none
def aEqF (eq : TypeId → AV → AV → Option Bool) (xs ys : List AV) : List (TypeId × Nat × Nat × Bool) → Option Bool
  | [] => some true
  | (t, off, sz, ag) :: fs =>
    match apart xs off sz ag, apart ys off sz ag with
    | some a, some b => match eq t a b, aEqF eq xs ys fs with
      | some r, some s => some (r && s)
      | _, _ => none
    | _, _ => none
def aEq (P : Program) : Nat → TypeId → AV → AV → Option Bool
  | 0, _, _, _ => none
  | d + 1, t, x, y =>
    match kdOf P t, x, y with
    | .int _, .it k a, .it k' b => if k = k' then some (a == b) else none
    | .str, .st a, .st b => some (a == b)
    | .bool, .bo a, .bo b => some (a == b)
    | _, .agg xs, .agg ys => match eqsOf P t with
      | some fs => aEqF (aEq P d) xs ys fs
      | none => none
    | _, _, _ => none
def aShl (k : IntKind) (a b : Int) : Option AV := if 0 ≤ b then some (.it k (k.wrap (a * 2 ^ (min b.toNat k.bits)))) else none
def aShr (k : IntKind) (a b : Int) : Option AV := if 0 ≤ b then some (.it k (a.fdiv (2 ^ (min b.toNat k.bits)))) else none
def aBin (P : Program) (op : BinOp) (t : TypeId) (x y : AV) : Option AV :=
  match x, y with
  | .it k a, .it k' b =>
    match op with
    | .shl => aShl k a b
    | .shr => aShr k a b
    | op => if k = k' then aInt op k a b else none
  | .st a, .st b => aStr op a b
  | .bo a, .bo b => if kdOf P t = .bool then (match op with | .eql => some (.bo (a == b)) | .neq => some (.bo (!(a == b))) | _ => none) else none
  | .agg xs, .agg ys => if P.eqGuardType P.depth t then none else
    match op with
    | .eql => (aEq P 6 t (.agg xs) (.agg ys)).map .bo
    | .neq => (aEq P 6 t (.agg xs) (.agg ys)).map fun b => .bo (!b)
    | _ => none
  | .ptr _ _, .ot (.pointer none) => if kdOf P t = .ptr then (match op with | .eql => some (.bo false) | .neq => some (.bo true) | _ => none) else none
  | .ot (.pointer none), .ot (.pointer none) => if kdOf P t = .ptr then (match op with | .eql => some (.bo true) | .neq => some (.bo false) | _ => none) else none
  | _, _ => none
section
variable {P : Program} {w : World} {g : Gh}
theorem kd_int {t : TypeId} {k : IntKind} (h : kdOf P t = .int k) : P.underlying t = some (.int k) := by
  unfold kdOf at h; split at h <;> first | (cases h; assumption) | cases h | (split at h <;> cases h)
theorem kd_bool {t : TypeId} (h : kdOf P t = .bool) : P.underlying t = some .bool := by
  unfold kdOf at h; split at h <;> first | assumption | cases h | (split at h <;> cases h)
theorem kd_str {t : TypeId} (h : kdOf P t = .str) : P.underlying t = some .string := by
  unfold kdOf at h; split at h <;> first | assumption | cases h | (split at h <;> cases h)
theorem kd_bytes {t : TypeId} (h : kdOf P t = .bytes) : ∃ e, P.underlying t = some (.slice e) ∧ P.underlying e = some (.int .u8) := by
  unfold kdOf at h
  split at h
  case h_4 e h1 =>
    split at h
    · rename_i h2; exact ⟨e, h1, h2⟩
    · cases h
  all_goals cases h
theorem kd_ptr {t : TypeId} (h : kdOf P t = .ptr) : ∃ e, P.underlying t = some (.pointer e) := by
  unfold kdOf at h
  split at h
  case h_5 e h1 => exact ⟨_, h1⟩
  case h_4 e h1 => split at h <;> cases h
  all_goals cases h
theorem aInt_ok {op : BinOp} {k : IntKind} {a b : Int} {v : AV} (t : TypeId) (h : aInt op k a b = some v) : ∃ cv, (binOp op t (.int k a) (.int k b)).run P w = .ok cv w ∧ Rel w g v cv := by
  cases op <;> simp only [aInt] at h <;> try (cases h; done)
  case quo =>
    by_cases h0 : b = 0
    · simp [h0] at h
    · rw [if_neg h0] at h
      cases h
      exact ⟨_, by simp [binOp, Op.intDiv, h0], .it g _ _⟩
  case rem =>
    by_cases h0 : b = 0
    · simp [h0] at h
    · rw [if_neg h0] at h
      cases h
      exact ⟨_, by simp [binOp, Op.intDiv, h0], .it g _ _⟩
  all_goals cases h
  case add => exact ⟨_, by simp [binOp, Op.intArith], .it g _ _⟩
  case sub => exact ⟨_, by simp [binOp, Op.intArith], .it g _ _⟩
  case mul => exact ⟨_, by simp [binOp, Op.intArith], .it g _ _⟩
  case and => exact ⟨_, by simp only [binOp, ne_eq, not_true_eq_false, if_false, intBits_and]; rfl, .it g _ _⟩
  case or => exact ⟨_, by simp only [binOp, ne_eq, not_true_eq_false, if_false]; rfl, .it g _ _⟩
  case xor => exact ⟨_, by simp only [binOp, ne_eq, not_true_eq_false, if_false]; rfl, .it g _ _⟩
  case andNot => exact ⟨_, by simp only [binOp, ne_eq, not_true_eq_false, if_false]; rfl, .it g _ _⟩
  all_goals exact ⟨_, by simp [binOp, Op.intCmp], .bo g _⟩
theorem aStr_ok {op : BinOp} {a b : List UInt8} {v : AV} (t : TypeId) (h : aStr op a b = some v) : ∃ cv, (binOp op t (.string ⟨a.toArray⟩) (.string ⟨b.toArray⟩)).run P w = .ok cv w ∧ Rel w g v cv := by
  cases op <;> simp only [aStr] at h <;> try (cases h; done)
  case add =>
    split at h
    · rename_i hle
      cases h
      refine ⟨.string ⟨(a ++ b).toArray⟩, ?_, .st g _⟩
      have e : (⟨a.toArray⟩ : ByteArray) ++ ⟨b.toArray⟩ = ⟨(a ++ b).toArray⟩ := by
        apply ByteArray.ext
        simp
      have hm : IntKind.i64.max = 9223372036854775807 := by decide
      have hn : ¬ (9223372036854775807 : Int) < ((a.length + b.length : Nat) : Int) := by omega
      have s1 : (⟨a.toArray⟩ : ByteArray).size = a.length := by simp [ByteArray.size]
      have s2 : (⟨b.toArray⟩ : ByteArray).size = b.length := by simp [ByteArray.size]
      simp only [binOp, Op.stringOp, s1, s2, hm, gt_iff_lt, if_neg hn, e]
      rfl
    · cases h
  all_goals (cases h; exact ⟨_, by simp [binOp, Op.stringOp], .bo g _⟩)
theorem eqsOf_spec {t : TypeId} {l : List (TypeId × Nat × Nat × Bool)} (h : eqsOf P t = some l) : P.underlying t = some (.struct (P.fieldsOf t)) ∧ P.stoodInHeld t = false ∧
    (P.fieldsOf t).toList.mapM (fun f : Field => if f.name = "_" then none else (szOf P f.type).map fun s => (f.type, f.offset, s.1, s.2)) = some l := by
  unfold eqsOf at h
  split at h
  · rename_i fs h1
    split at h
    · cases h
    · rename_i h2
      have : P.fieldsOf t = fs := by simp [Program.fieldsOf, h1]
      rw [this]
      exact ⟨h1, by simpa using h2, h⟩
  · cases h
theorem aEqF_ok (d : Nat) (eq : TypeId → AV → AV → Option Bool) (heq : ∀ t x y b cx cy, eq t x y = some b → Rel w g x cx → Rel w g y cy → (Op.equalIn d t cx cy).run P w = .ok b w)
    {xs ys : List AV} {ax ay : Array Value} (hx : Rel w g (.agg xs) (.agg ax)) (hy : Rel w g (.agg ys) (.agg ay)) : ∀ (fs : List Field) (l : List (TypeId × Nat × Nat × Bool)) (b : Bool),
    fs.mapM (fun f : Field => if f.name = "_" then none else (szOf P f.type).map fun s => (f.type, f.offset, s.1, s.2)) = some l → aEqF eq xs ys l = some b → (Op.eqFields d ax ay fs).run P w = .ok b w := by
  intro fs
  cases hx with | agg _ _ _ hnx h1x hrx =>
  cases hy with | agg _ _ _ hny h1y hry =>
  induction fs with
  | nil =>
    intro l b h hb
    simp at h
    subst h
    simp [aEqF] at hb
    subst hb
    simp [Op.eqFields]
  | cons f fs ih =>
    intro l b h hb
    rw [List.mapM_cons] at h
    by_cases hn : f.name = "_"
    · simp [hn] at h
    · simp only [hn, if_false, Option.bind_eq_bind, Option.pure_def] at h
      obtain ⟨p, hp, h⟩ := Option.bind_eq_some_iff.1 h
      obtain ⟨⟨sz, ag⟩, hs, rfl⟩ := Option.map_eq_some_iff.1 hp
      obtain ⟨l', hl', h⟩ := Option.bind_eq_some_iff.1 h
      cases h
      simp only [aEqF] at hb
      split at hb
      · rename_i a c ha hc
        split at hb
        · rename_i r s hr hs'
          cases hb
          obtain ⟨ca, hra, hca⟩ := apart_ok hnx h1x hrx hs ha
          obtain ⟨cc, hrc, hcc⟩ := apart_ok hny h1y hry hs hc
          have := heq _ _ _ _ _ _ hr hca hcc
          have hi := ih l' s hl' hs'
          simp only [Op.eqFields, ne_eq, hn, not_false_eq_true, if_true, Sem.run_bind, hra, hrc, this, Result.andThen_ok]
          cases r
          · simp
          · simpa using hi
        · cases hb
      · cases hb
theorem aEq_ok (m : Nat) : ∀ (d : Nat) t x y b cx cy, aEq P d t x y = some b → Rel w g x cx → Rel w g y cy → (Op.equalIn (d + m) t cx cy).run P w = .ok b w := by
  intro d
  induction d with
  | zero => intro t x y b cx cy h; simp [aEq] at h
  | succ d ih =>
    intro t x y b cx cy h hx hy
    rw [show d + 1 + m = (d + m) + 1 from by omega]
    unfold aEq at h
    split at h
    · rename_i k0 k a k' b' hk
      cases hx; cases hy
      split at h
      · rename_i hkk
        subst hkk
        cases h
        exact run_equalIn_int w _ t _ _ _ _ (kd_int hk)
      · cases h
    · rename_i hk
      cases hx; cases hy; cases h
      rw [run_equalIn_string w _ t _ _ (kd_str hk)]
      simp
    · rename_i hk
      cases hx; cases hy; cases h
      exact run_equalIn_bool' w _ t _ _ (kd_bool hk)
    · rename_i xs ys
      split at h
      · rename_i fs hfs
        obtain ⟨h1, h2, h3⟩ := eqsOf_spec hfs
        have hx' := hx
        have hy' := hy
        cases hx; cases hy
        rw [run_equalIn_agg w _ t _ _ h1 h2]
        exact aEqF_ok (d + m) (aEq P d) (fun t x y b cx cy hb hx hy => ih t x y b cx cy hb hx hy) hx' hy' _ _ _ h3 h
      · cases h
    · cases h
theorem aBin_ok {op : BinOp} {t : TypeId} {x y v : AV} {cx cy : Value} (ox oy : Operand) (h : aBin P op t x y = some v) (hx : Rel w g x cx) (hy : Rel w g y cy) :
    ∃ cv, (do eqGuard op t ox oy cx cy; binOp op t cx cy : Sem Value).run P w = .ok cv w ∧ Rel w g v cv := by
  unfold aBin at h
  split at h
  · cases hx; cases hy
    rename_i k a k' b
    have hg : (eqGuard op t ox oy (.int k a) (.int k' b)).run P w = .ok () w := by cases op <;> simp [eqGuard]
    simp only [Sem.run_bind, hg, Result.andThen_ok]
    split at h
    · unfold aShl at h
      split at h
      · rename_i h0
        cases h
        exact ⟨_, by simp [binOp, Op.shift, show ¬ b < 0 from by omega], .it g _ _⟩
      · cases h
    · unfold aShr at h
      split at h
      · rename_i h0
        cases h
        exact ⟨_, by simp [binOp, Op.shift, show ¬ b < 0 from by omega], .it g _ _⟩
      · cases h
    · split at h
      · rename_i hkk
        subst hkk
        exact aInt_ok t h
      · cases h
  · cases hx; cases hy
    rename_i a b
    have hg : (eqGuard op t ox oy (.string ⟨a.toArray⟩) (.string ⟨b.toArray⟩)).run P w = .ok () w := by cases op <;> simp [eqGuard]
    simp only [Sem.run_bind, hg, Result.andThen_ok]
    exact aStr_ok t h
  · cases hx; cases hy
    rename_i a b
    have hg : (eqGuard op t ox oy (.bool a) (.bool b)).run P w = .ok () w := by cases op <;> simp [eqGuard]
    simp only [Sem.run_bind, hg, Result.andThen_ok]
    split at h
    · rename_i hk
      have hu := kd_bool hk
      have he := run_equalIn_bool' w 9999 t a b hu
      split at h
      · cases h
        exact ⟨_, by simp [binOp, Op.equal, Op.maxDepth, he], .bo g _⟩
      · cases h
        exact ⟨_, by simp [binOp, Op.equal, Op.maxDepth, he], .bo g _⟩
      · cases h
    · cases h
  · rename_i xs ys
    split at h
    · cases h
    · rename_i hgd
      have hx' := hx
      have hy' := hy
      cases hx; cases hy
      rename_i ax hnx h1x hrx ay hny h1y hry
      have hg := run_eqGuard_agg w op t ox oy ax ay (by simpa using hgd)
      simp only [Sem.run_bind, hg, Result.andThen_ok]
      split at h
      · obtain ⟨b, hb, rfl⟩ := Option.map_eq_some_iff.1 h
        have := aEq_ok 9994 6 t _ _ b _ _ hb hx' hy'
        refine ⟨_, ?_, .bo g _⟩
        rw [run_eql_struct, this]
        rfl
      · obtain ⟨b, hb, rfl⟩ := Option.map_eq_some_iff.1 h
        have := aEq_ok 9994 6 t _ _ b _ _ hb hx' hy'
        refine ⟨_, ?_, .bo g _⟩
        rw [run_neq_struct, this]
        rfl
      · cases h
  · cases hx; cases hy
    rename_i l off hl hb _
    have hg : (eqGuard op t ox oy (.pointer (some ⟨g.pl l, off, none⟩)) (.pointer none)).run P w = .ok () w := by cases op <;> simp [eqGuard]
    simp only [Sem.run_bind, hg, Result.andThen_ok]
    split at h
    · rename_i hk
      obtain ⟨e, hu⟩ := kd_ptr hk
      have he0 : ∀ d, (Op.equalIn (d + 1) t (.pointer (some ⟨g.pl l, off, none⟩)) (.pointer none)).run P w = .ok false w := fun d => by simp [Op.equalIn, run_underlying hu]
      have he := he0 9999
      split at h
      · cases h
        exact ⟨_, by simp [binOp, Op.equal, Op.maxDepth, he], .bo g _⟩
      · cases h
        exact ⟨_, by simp [binOp, Op.equal, Op.maxDepth, he], .bo g _⟩
      · cases h
    · cases h
  · cases hx; cases hy
    have hg : (eqGuard op t ox oy (.pointer none) (.pointer none)).run P w = .ok () w := by cases op <;> simp [eqGuard]
    simp only [Sem.run_bind, hg, Result.andThen_ok]
    split at h
    · rename_i hk
      obtain ⟨e, hu⟩ := kd_ptr hk
      have he0 : ∀ d, (Op.equalIn (d + 1) t (.pointer none) (.pointer none)).run P w = .ok true w := fun d => by simp [Op.equalIn, run_underlying hu]
      have he := he0 9999
      split at h
      · cases h
        exact ⟨_, by simp [binOp, Op.equal, Op.maxDepth, he], .bo g _⟩
      · cases h
        exact ⟨_, by simp [binOp, Op.equal, Op.maxDepth, he], .bo g _⟩
      · cases h
    · cases h
  · cases h
end
end Go.Proofs.Ytknbnhmenohacaa.Pe
