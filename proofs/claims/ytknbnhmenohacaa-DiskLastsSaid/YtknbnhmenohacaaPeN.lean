/- Regions: operations in the text's order serve for every order that the region may take. Nothing of the program. -/
import Derived.Test.YtknbnhmenohacaaPeM
import Derived.Still
import Derived.Deep.LoopGhost
namespace Go.Proofs.Ytknbnhmenohacaa.Pe
set_option linter.unusedSectionVars false
set_option linter.unusedVariables false
set_option linter.unusedSimpArgs false
open Go Go.RowKit
variable [Tab]
inductive Cls where
  | free | read | write
/-- what an operation has to do with memory that may change: nothing; it reads; it writes. pf: functions that have nothing to do with it; rf: functions that only read it; a temporary t that holds such a function is listed as t + 1000000 -/
def clsOf (P : Program) (pf rf : List FuncId) : Op → Cls
  | .load .. => .read
  | .lookup .. => .read
  | .convert _ d _ => match kdOf P d with
    | .bytes => .write
    | _ => .free
  | .call c => match c.callee with
    | .value (.func f) => if pf.contains f then .free else if rf.contains f then .read else .write
    | .value (.tmp t) => if pf.contains (t + 1000000) then .free else if rf.contains (t + 1000000) then .read else .write
    | .builtin .len => .free
    | .builtin .min => .free
    | .builtin .max => .free
    | _ => .write
  | .move _ => .free
  | .assign _ => .free
  | .pick .. => .free
  | .buildSlice .. => .free
  | .build .. => .free
  | .nilCheck _ => .free
  | .binOp .. => .free
  | .unOp .. => .free
  | .makeFunc .. => .free
  | .slice .. => .free
  | .fieldAddr .. => .free
  | .field .. => .free
  | .indexAddr .. => .free
  | .index .. => .free
  | .extract .. => .free
  | _ => .write
def indep (cls : Op → Cls) (ops : Array Oper) (x y : Oper) : Bool :=
  x.apart ops y && (match cls x.op, cls y.op with
    | .free, _ => true
    | _, .free => true
    | .read, .read => true
    | _, _ => false)
def freeC (cls : Op → Cls) (md : Region.Mode) (ops : Array Oper) (listed : Array Bool) (k : Nat) : Bool :=
  match ops[k]? with
  | none => false
  | some ok => (List.range ops.size).all fun j =>
    match ops[j]? with
    | none => true
    | some oj => j == k || listed.getD j true || oj.after.any (fun e => Region.binds md e && e.on == k) || indep cls ops ok oj
def lexC (cls : Op → Cls) (md : Region.Mode) (ops : Array Oper) : Nat → Nat → Array Bool → Bool
  | 0, _, listed => (Region.ready md ops listed).isEmpty
  | fuel + 1, k, listed => (Region.ready md ops listed).contains k && freeC cls md ops listed k && lexC cls md ops fuel (k + 1) (listed.setIfInBounds k true)
def lexOk (cls : Op → Cls) (ops : Array Oper) : Bool := lexC cls .any ops ops.size 0 (Array.replicate ops.size false)
theorem freeC_spec {cls : Op → Cls} {md : Region.Mode} {ops : Array Oper} {listed : Array Bool} {k : Nat} {ok : Oper} (hk : ops[k]? = some ok) (h : freeC cls md ops listed k = true) :
    ∀ (j : Nat) oj, ops[j]? = some oj → j ≠ k → listed.getD j true = false → (∀ e ∈ oj.after, Region.binds md e = true → e.on ≠ k) → indep cls ops ok oj = true := by
  intro j oj hj hne hun hno
  unfold freeC at h
  rw [hk] at h
  simp only at h
  have hlt : j < ops.size := (Array.getElem?_eq_some_iff.1 hj).1
  have h1 := (List.all_eq_true.1 h) j (List.mem_range.2 hlt)
  rw [hj] at h1
  simp only [Bool.or_eq_true, beq_iff_eq] at h1
  rcases h1 with ((h1 | h1) | h1) | h1
  · exact absurd h1 hne
  · rw [hun] at h1; cases h1
  · rw [Array.any_eq_true'] at h1
    obtain ⟨e, he, h2⟩ := h1
    simp only [Bool.and_eq_true, beq_iff_eq] at h2
    exact absurd h2.2 (hno e he h2.1)
  · exact h1
/- one operation -/
def XStep (P : Program) (c : Cls) (o : Oper) (e : Env) (S : Store) (v : AV) (S' : Store) : Prop :=
  match c with
  | .free => S' = S ∧ ∀ T, Does P o e T v T
  | .read => S' = S ∧ Does P o e S v S
  | .write => Does P o e S v S'
theorem XStep.does {P : Program} {c : Cls} {o : Oper} {e : Env} {S S' : Store} {v : AV} (h : XStep P c o e S v S') : Does P o e S v S' := by
  cases c
  · obtain ⟨rfl, h⟩ := h; exact h _
  · obtain ⟨rfl, h⟩ := h; exact h
  · exact h
def aYield (ops : Array Oper) (e : Env) (j : Nat) : Option (Option Bool) :=
  match (ops[j]?).bind (·.dst) with
  | none => some none
  | some d => match e d with
    | .bo b => some (some b)
    | .tup [] => some none
    | _ => none
def aWant (ops : Array Oper) (o : Oper) (e : Env) : Option Bool :=
  match o.guard with
  | none => some true
  | some (j, want) => (aYield ops e j).map (· == some want)
theorem aWant_ok {ops : Array Oper} {o : Oper} {e : Env} {a : Act} {w : World} {g : Gh} (h : ERel w g e a) {b : Bool} (hb : aWant ops o e = some b) : Region.wanted o (yielded ops a.tmps) = b := by
  unfold aWant at hb
  unfold Region.wanted
  split at hb
  · rename_i hg
    cases hb
    rw [hg]
  · rename_i j want hg
    obtain ⟨y, hy, rfl⟩ := Option.map_eq_some_iff.1 hb
    rw [hg]
    simp only
    have : yielded ops a.tmps j = y := by
      unfold aYield at hy
      unfold yielded
      split at hy
      · rename_i hd
        cases hy
        rw [hd]
        rfl
      · rename_i d hd
        rw [hd]
        have hr := h d
        split at hy
        · rename_i b' hb'
          cases hy
          rw [hb'] at hr
          simp only [Option.bind_some]
          cases ht : a.tmps[d]? with
          | none =>
            rw [Array.getD_eq_getD_getElem?, ht] at hr
            cases hr
          | some z =>
            rw [Array.getD_eq_getD_getElem?, ht] at hr
            simp only [Option.getD_some] at hr
            cases hr
            rfl
        · rename_i hb'
          cases hy
          rw [hb'] at hr
          simp only [Option.bind_some]
          cases ht : a.tmps[d]? with
          | none => rfl
          | some z =>
            rw [Array.getD_eq_getD_getElem?, ht] at hr
            simp only [Option.getD_some] at hr
            cases hr
            rfl
        · cases hy
    rw [this]
/-- what is kept of a running call: w0, g0 when it was entered; N temporaries -/
def Conc (N : Nat) (w0 : World) (g0 : Gh) (e : Env) (S : Store) (a : Act) (w : World) : Prop :=
  a.tmps.size = N ∧ a.defers = [] ∧ ∃ g, WF w g S ∧ ERel w g e a ∧ Evo w0 g0 w g
section
variable {P : Program} {N : Nat} {w0 : World} {g0 : Gh}
theorem ERel.put {w : World} {g : Gh} {e : Env} {a : Act} (h : ERel w g e a) {d : Option Nat} (hd : ∀ x, d = some x → x < a.tmps.size) {v : AV} {cv : Value} (hv : Rel w g v cv) : ERel w g (Pe.put e d v) (a.put d cv) := by
  cases d with
  | none => exact h
  | some x =>
    intro t
    show Rel w g (upd e x v t) _
    simp only [Act.put]
    by_cases ht : t = x
    · subst ht
      rw [upd_same]
      have hx := hd t rfl
      rw [Array.getD_eq_getD_getElem?, Array.getElem?_setIfInBounds_self_of_lt hx]
      exact hv
    · rw [upd_ne e ht, Array.getD_eq_getD_getElem?, Array.getElem?_setIfInBounds_ne (fun e => ht e.symm), ← Array.getD_eq_getD_getElem?]
      exact h t
theorem Conc.does {o : Oper} {e : Env} {S S' : Store} {v : AV} {a : Act} {w : World} (hc : Conc N w0 g0 e S a w) (hd : ∀ d, o.dst = some d → d < N) (h : Does P o e S v S') {K : Act → World → Prop} {Q : Exit → Act → World → Prop}
    (hK : ∀ a' w', Conc N w0 g0 (Pe.put e o.dst v) S' a' w' → K a' w') : o.wp P a w K Q := by
  obtain ⟨h1, h2, g, h3, h4, h5⟩ := hc
  refine h a w g h3 (fun x _ => ev_ok h4 x) K Q fun cv w' g' hw hr he => hK _ _ ⟨?_, ?_, g', hw, ?_, h5.trans he⟩
  · cases ho : o.dst <;> simp [Act.put, h1]
  · cases ho : o.dst <;> simp [Act.put, h2]
  · exact ERel.put (fun t => (h4 t).le he.toLe) (fun x hx => by rw [h1]; exact hd x hx) hr
theorem Conc.skip {o : Oper} {e : Env} {S : Store} {a : Act} {w : World} (hc : Conc N w0 g0 e S a w) (hd : ∀ d, o.dst = some d → d < N) : Conc N w0 g0 (Pe.put e o.dst (.tup [])) S (a.put o.dst undef) w := by
  obtain ⟨h1, h2, g, h3, h4, h5⟩ := hc
  refine ⟨?_, ?_, g, h3, h4.put (fun x hx => by rw [h1]; exact hd x hx) (.tup g [] #[] rfl (by simp)), h5⟩
  · cases ho : o.dst <;> simp [Act.put, h1]
  · cases ho : o.dst <;> simp [Act.put, h2]
/-- operation number i comes up -/
def xOp (P : Program) (cls : Op → Cls) (ops : Array Oper) (i : Nat) (K : Env → Store → Prop) (e : Env) (S : Store) : Prop :=
  match ops[i]? with
  | none => K e S
  | some o => match aWant ops o e with
    | some true => ∃ v S', XStep P (cls o.op) o e S v S' ∧ K (Pe.put e o.dst v) S'
    | some false => K (Pe.put e o.dst (.tup [])) S
    | none => False
theorem xOp_mono {cls : Op → Cls} {ops : Array Oper} {i : Nat} {K K' : Env → Store → Prop} {e : Env} {S : Store} (h : ∀ e S, K e S → K' e S) (hh : xOp P cls ops i K e S) : xOp P cls ops i K' e S := by
  unfold xOp at *
  split
  · rename_i ho; simp only [ho] at hh; exact h _ _ hh
  · rename_i o ho
    simp only [ho] at hh
    split
    · rename_i hw; simp only [hw] at hh; obtain ⟨v, S', h1, h2⟩ := hh; exact ⟨v, S', h1, h _ _ h2⟩
    · rename_i hw; simp only [hw] at hh; exact h _ _ hh
    · rename_i hw; simp only [hw] at hh
def wpX (P : Program) (cls : Op → Cls) (md : Region.Mode) (ops : Array Oper) (Q : Env → Store → Prop) : Nat → Array Bool → Env → Store → Prop
  | 0, listed, e, S => Region.ready md ops listed = [] ∧ Q e S
  | fuel + 1, listed, e, S =>
    (Region.ready md ops listed = [] → Q e S) ∧
    ∀ i ∈ Region.ready md ops listed, xOp P cls ops i (wpX P cls md ops Q fuel (listed.setIfInBounds i true)) e S
def dstsOk (N : Nat) (ops : Array Oper) : Bool := ops.all fun o => match o.dst with
  | some d => decide (d < N)
  | none => true
theorem dstsOk_spec {ops : Array Oper} (h : dstsOk N ops = true) {i : Nat} {o : Oper} (hi : ops[i]? = some o) : ∀ d, o.dst = some d → d < N := by
  intro d hd
  have := (Array.all_eq_true_iff_forall_mem.1 h) o (Array.mem_of_getElem? hi)
  rw [hd] at this
  simpa using this
theorem wpAny_of_x {cls : Op → Cls} {md : Region.Mode} {ops : Array Oper} (hds : dstsOk N ops = true) {Q : Env → Store → Prop} {Q' : Exit → Act → World → Prop} (hQ : ∀ e S a w, Conc N w0 g0 e S a w → Q e S → Q' .normal a w) :
    ∀ (fuel : Nat) (listed : Array Bool) (e : Env) (S : Store) (a : Act) (w : World), Conc N w0 g0 e S a w → wpX P cls md ops Q fuel listed e S → wpAny P md ops Q' fuel listed a w
  | 0, _, e, S, a, w, hc, h => ⟨h.1, hQ e S a w hc h.2⟩
  | fuel + 1, listed, e, S, a, w, hc, h => ⟨fun h0 => hQ e S a w hc (h.1 h0), fun i hi => by
    have hx := h.2 i hi
    unfold xOp at hx
    unfold wpOp
    split
    · rename_i ho; simp only [ho] at hx; exact wpAny_of_x hds hQ fuel _ e S a w hc hx
    · rename_i o ho
      simp only [ho] at hx
      have hd := dstsOk_spec hds ho
      have her : ∃ g, ERel w g e a := by obtain ⟨_, _, g, _, h4, _⟩ := hc; exact ⟨g, h4⟩
      obtain ⟨g, her⟩ := her
      split at hx
      · rename_i hw
        rw [aWant_ok her hw]
        obtain ⟨v, S', h1, h2⟩ := hx
        simp only [if_true]
        exact .inl (hc.does hd h1.does fun a' w' hc' => wpAny_of_x hds hQ fuel _ _ _ a' w' hc' h2)
      · rename_i hw
        rw [aWant_ok her hw]
        simp only [Bool.false_eq_true, if_false]
        exact wpAny_of_x hds hQ fuel _ _ _ _ w (hc.skip hd) hx
      · exact hx.elim⟩
/-- in this state, operation o yields v and leaves S' -/
def YieldsX (P : Program) (cls : Op → Cls) (ops : Array Oper) (o : Oper) (e : Env) (S : Store) (v : AV) (S' : Store) : Prop :=
  (aWant ops o e = some true ∧ XStep P (cls o.op) o e S v S') ∨ (aWant ops o e = some false ∧ v = .tup [] ∧ S' = S)
theorem YieldsX.xOp {cls : Op → Cls} {ops : Array Oper} {i : Nat} {o : Oper} {e : Env} {S S' : Store} {v : AV} (hi : ops[i]? = some o) (hy : YieldsX P cls ops o e S v S') {K : Env → Store → Prop} (h : K (Pe.put e o.dst v) S') : xOp P cls ops i K e S := by
  unfold Pe.xOp
  simp only [hi]
  rcases hy with ⟨hw, hx⟩ | ⟨hw, rfl, rfl⟩
  · simp only [hw]; exact ⟨v, S', hx, h⟩
  · simp only [hw]; exact h
theorem yieldsX_of_xOp {cls : Op → Cls} {ops : Array Oper} {i : Nat} {o : Oper} {e : Env} {S : Store} {K : Env → Store → Prop} (hi : ops[i]? = some o) (h : xOp P cls ops i K e S) : ∃ v S', YieldsX P cls ops o e S v S' ∧ K (Pe.put e o.dst v) S' := by
  unfold xOp at h
  simp only [hi] at h
  split at h
  · rename_i hw; obtain ⟨v, S', h1, h2⟩ := h; exact ⟨v, S', .inl ⟨hw, h1⟩, h2⟩
  · rename_i hw; exact ⟨.tup [], S, .inr ⟨hw, rfl, rfl⟩, h⟩
  · exact h.elim
theorem ev_put {e : Env} {dst : Option Nat} {v : AV} {x : Operand} (h : ∀ d, dst = some d → x ≠ .tmp d) : ev (Pe.put e dst v) x = ev e x := by
  cases dst with
  | none => rfl
  | some d =>
    cases x with
    | tmp t =>
      show upd e d v t = e t
      exact upd_ne e (fun ht => h d rfl (by rw [ht])) v
    | _ => rfl
theorem put_comm (e : Env) {x y : Option Nat} (v u : AV) (h : ∀ d, x = some d → y ≠ some d) : Pe.put (Pe.put e x v) y u = Pe.put (Pe.put e y u) x v := by
  cases x with
  | none => rfl
  | some d =>
    cases y with
    | none => rfl
    | some d' =>
      have hne : d ≠ d' := fun he => h d rfl (by rw [he])
      funext t
      show upd (upd e d v) d' u t = upd (upd e d' u) d v t
      unfold upd
      by_cases h1 : t = d
      · subst h1
        rw [if_neg hne]
        simp
      · by_cases h2 : t = d'
        · subst h2; simp [h1]
        · simp [h1, h2]
theorem Does.put {o : Oper} {e : Env} {S S' : Store} {v : AV} {ops : Array Oper} {dst : Option Nat} {u : AV} (h : ∀ d, dst = some d → d ∉ o.looksAt ops) : Does P o (Pe.put e dst u) S v S' ↔ Does P o e S v S' := by
  have key : ∀ x, x ∈ o.op.operands.toList → ev (Pe.put e dst u) x = ev e x := fun x hx => ev_put fun d hd hxd => h d hd (by
    subst hxd
    exact List.mem_append_left _ (List.mem_filterMap.2 ⟨.tmp d, hx, rfl⟩))
  constructor
  · intro hh a w g hw hr K Q hK
    exact hh a w g hw (fun x hx => by rw [key x hx]; exact hr x hx) K Q hK
  · intro hh a w g hw hr K Q hK
    exact hh a w g hw (fun x hx => by rw [← key x hx]; exact hr x hx) K Q hK
theorem XStep.put {c : Cls} {o : Oper} {e : Env} {S S' : Store} {v : AV} {ops : Array Oper} {dst : Option Nat} {u : AV} (h : ∀ d, dst = some d → d ∉ o.looksAt ops) : XStep P c o (Pe.put e dst u) S v S' ↔ XStep P c o e S v S' := by
  cases c
  · exact and_congr Iff.rfl (forall_congr' fun T => Does.put h)
  · exact and_congr Iff.rfl (Does.put h)
  · exact Does.put h
theorem aWant_put {o : Oper} {e : Env} {ops : Array Oper} {dst : Option Nat} {u : AV} (h : ∀ d, dst = some d → d ∉ o.looksAt ops) : aWant ops o (Pe.put e dst u) = aWant ops o e := by
  unfold aWant
  split
  · rfl
  · rename_i j want hg
    congr 1
    unfold aYield
    split
    · rfl
    · rename_i d hd
      have : Pe.put e dst u d = e d := by
        cases dst with
        | none => rfl
        | some d' =>
          refine upd_ne e (fun he => h d' rfl ?_) u
          subst he
          refine List.mem_append_right _ ?_
          rw [hg]
          simp [hd]
      rw [this]
/-- two independent operations may change places -/
theorem xOp_swap {cls : Op → Cls} {ops : Array Oper} {j : Nat} {oi oj : Oper} {v : AV} {e : Env} {S Si : Store} (hj : ops[j]? = some oj) (hap : indep cls ops oi oj = true) {K : Env → Store → Prop}
    (hy : YieldsX P cls ops oi e S v Si) (h : xOp P cls ops j K (Pe.put e oi.dst v) Si) :
    xOp P cls ops j (fun e' S' => ∃ Si', YieldsX P cls ops oi e' S' v Si' ∧ K (Pe.put e' oi.dst v) Si') e S := by
  simp only [indep, Bool.and_eq_true] at hap
  obtain ⟨h1, h2, h3⟩ := Oper.apart_spec hap.1
  have hcls := hap.2
  have keep : ∀ u, aWant ops oi (Pe.put e oj.dst u) = aWant ops oi e := fun u => aWant_put h3
  unfold xOp at *
  simp only [hj] at *
  rw [aWant_put h1] at h
  split
  · rename_i hw
    simp only [hw] at h
    obtain ⟨u, Sj, hu, hn⟩ := h
    rw [XStep.put h1] at hu
    rcases hy with ⟨hwi, hx⟩ | ⟨hwi, rfl, rfl⟩
    · cases hci : cls oi.op with
      | free =>
        rw [hci] at hx
        obtain ⟨rfl, hx⟩ := hx
        refine ⟨u, Sj, hu, Sj, .inl ⟨by rw [keep]; exact hwi, ?_⟩, by rw [← put_comm e v u h2]; exact hn⟩
        rw [hci, XStep.put h3]
        exact ⟨rfl, hx⟩
      | read =>
        rw [hci] at hx
        obtain ⟨rfl, hx⟩ := hx
        cases hcj : cls oj.op with
        | free =>
          rw [hcj] at hu
          obtain ⟨rfl, hu⟩ := hu
          refine ⟨u, _, ⟨rfl, hu⟩, _, .inl ⟨by rw [keep]; exact hwi, ?_⟩, by rw [← put_comm e v u h2]; exact hn⟩
          rw [hci, XStep.put h3]
          exact ⟨rfl, hx⟩
        | read =>
          rw [hcj] at hu
          obtain ⟨rfl, hu⟩ := hu
          refine ⟨u, _, ⟨rfl, hu⟩, _, .inl ⟨by rw [keep]; exact hwi, ?_⟩, by rw [← put_comm e v u h2]; exact hn⟩
          rw [hci, XStep.put h3]
          exact ⟨rfl, hx⟩
        | write => rw [hci, hcj] at hcls; cases hcls
      | write =>
        rw [hci] at hx
        cases hcj : cls oj.op with
        | free =>
          rw [hcj] at hu
          obtain ⟨rfl, hu⟩ := hu
          refine ⟨u, _, ⟨rfl, hu⟩, _, .inl ⟨by rw [keep]; exact hwi, ?_⟩, by rw [← put_comm e v u h2]; exact hn⟩
          rw [hci, XStep.put h3]
          exact hx
        | read => rw [hci, hcj] at hcls; cases hcls
        | write => rw [hci, hcj] at hcls; cases hcls
    · exact ⟨u, Sj, hu, Sj, .inr ⟨by rw [keep]; exact hwi, rfl, rfl⟩, by rw [← put_comm e _ u h2]; exact hn⟩
  · rename_i hw
    simp only [hw] at h
    refine ⟨Si, ?_, by rw [← put_comm e v _ h2]; exact h⟩
    rcases hy with ⟨hwi, hx⟩ | ⟨hwi, rfl, rfl⟩
    · exact .inl ⟨by rw [keep]; exact hwi, (XStep.put h3).2 hx⟩
    · exact .inr ⟨by rw [keep]; exact hwi, rfl, rfl⟩
  · rename_i hw
    simp only [hw] at h
theorem wpX_first {cls : Op → Cls} {md : Region.Mode} {ops : Array Oper} {Q : Env → Store → Prop} {i : Nat} {oi : Oper} {v : AV} (hi : ops[i]? = some oi) :
    ∀ (fuel : Nat) (listed : Array Bool) (e : Env) (S Si : Store),
      (∀ (j : Nat) oj, ops[j]? = some oj → j ≠ i → listed.getD j true = false → (∀ e ∈ oj.after, Region.binds md e = true → e.on ≠ i) → indep cls ops oi oj = true) →
      i ∈ Region.ready md ops listed → YieldsX P cls ops oi e S v Si →
      wpX P cls md ops Q fuel (listed.setIfInBounds i true) (Pe.put e oi.dst v) Si → wpX P cls md ops Q (fuel + 1) listed e S := by
  intro fuel
  induction fuel with
  | zero =>
    intro listed e S Si _ hr hy H
    refine ⟨fun h => (by rw [h] at hr; cases hr), fun j hj => ?_⟩
    by_cases hji : j = i
    · subst hji; exact hy.xOp hi H
    · have := ready_mono hj hji
      rw [H.1] at this
      cases this
  | succ fuel ih =>
    intro listed e S Si hfree hr hy H
    refine ⟨fun h => (by rw [h] at hr; cases hr), fun j hj => ?_⟩
    by_cases hji : j = i
    · subst hji; exact hy.xOp hi H
    · have h1 := H.2 j (ready_mono hj hji)
      obtain ⟨hjun, oj, hoj, hall⟩ := mem_ready.1 hj
      have hnot : ∀ e ∈ oj.after, Region.binds md e = true → e.on ≠ i := fun e he hb heq => by
        have h1 := hall e he hb
        have h0 := (mem_ready.1 hr).1
        rw [heq] at h1
        rcases Nat.lt_or_ge i listed.size with h' | h'
        · simp [h'] at h0 h1; rw [h0] at h1; cases h1
        · simp [Array.getElem?_eq_none h'] at h1
      have h2 := xOp_swap hoj (hfree j oj hoj hji hjun hnot) hy h1
      have hfree' : ∀ (k : Nat) ok, ops[k]? = some ok → k ≠ i → (listed.setIfInBounds j true).getD k true = false →
          (∀ e ∈ ok.after, Region.binds md e = true → e.on ≠ i) → indep cls ops oi ok = true := fun k ok hk hki hun hno => by
        refine hfree k ok hk hki ?_ hno
        by_cases hjk : j = k
        · subst hjk; exact hjun
        · rw [getD_set_ne true hjk] at hun; exact hun
      refine xOp_mono (fun e' S' h3 => ?_) h2
      obtain ⟨Si', h3, h4⟩ := h3
      refine ih (listed.setIfInBounds j true) e' S' Si' hfree' (ready_mono hr (Ne.symm hji)) h3 ?_
      rw [Array.setIfInBounds_comm _ _ hji]
      exact h4
/-- the operations in the text's order -/
def wpL (P : Program) (cls : Op → Cls) (ops : Array Oper) (Q : Env → Store → Prop) : List Oper → Env → Store → Prop
  | [], e, S => Q e S
  | o :: rest, e, S => match aWant ops o e with
    | some true => ∃ v S', XStep P (cls o.op) o e S v S' ∧ wpL P cls ops Q rest (Pe.put e o.dst v) S'
    | some false => wpL P cls ops Q rest (Pe.put e o.dst (.tup [])) S
    | none => False
theorem wpX_lex {cls : Op → Cls} {md : Region.Mode} {ops : Array Oper} {Q : Env → Store → Prop} : ∀ (l : List Oper) (k : Nat) (listed : Array Bool) (e : Env) (S : Store), (∀ j, l[j]? = ops[k + j]?) →
    lexC cls md ops l.length k listed = true → wpL P cls ops Q l e S → wpX P cls md ops Q l.length listed e S
  | [], _, _, _, _, _, hB, h => ⟨by simpa [lexC] using hB, h⟩
  | o :: l, k, listed, e, S, hl, hB, h => by
    have h0 : ops[k]? = some o := by simpa using (hl 0).symm
    simp only [List.length_cons, lexC, Bool.and_eq_true] at hB
    obtain ⟨⟨hr, hf⟩, hB'⟩ := hB
    have hst : xOp P cls ops k (wpL P cls ops Q l) e S := by unfold xOp; simp only [h0]; exact h
    obtain ⟨v, S', hy, hK⟩ := yieldsX_of_xOp h0 hst
    exact wpX_first h0 l.length listed e S S' (freeC_spec h0 hf) (by simpa using hr) hy
      (wpX_lex l (k + 1) _ _ _ (fun j => by have := hl (j + 1); simpa [Nat.add_assoc, Nat.add_comm 1 j] using this) hB' hK)
theorem Conc.draw {e : Env} {S : Store} {a : Act} {w : World} (h : Conc N w0 g0 e S a w) (n : Nat) : Conc N w0 g0 e S a { w with drawn := n } := by
  obtain ⟨h1, h2, g, h3, h4, h5⟩ := h
  exact ⟨h1, h2, g, h3.draw n, fun t => (h4 t).le (Evo.draw w g n).toLe, h5.trans (Evo.draw w g n)⟩
theorem region_draws {cls : Op → Cls} {ops : Array Oper} {id : Nat} {Q : Env → Store → Prop} {Q' : Exit → Act → World → Prop} {e : Env} {S : Store} {a : Act} {w : World} (hm : P.follows .mixedOrders = true) (hB : lexOk cls ops = true) (hds : dstsOk N ops = true)
    (hQ : ∀ e S a w, Conc N w0 g0 e S a w → Q e S → Q' .normal a w) (hc : Conc N w0 g0 e S a w) (h : wpL P cls ops Q ops.toList e S) : (Code.region id ops true).wp P Q' a w := by
  refine wp_region_any hm (wpAny_of_x (cls := cls) hds hQ _ _ e S a _ (hc.draw _) ?_)
  have := wpX_lex (md := .any) ops.toList 0 (Array.replicate ops.size false) e S (by simp) (by simpa [lexOk] using hB) h
  simpa using this
theorem wpList_of_L {cls : Op → Cls} {ops : Array Oper} (hds : dstsOk N ops = true) {Q : Env → Store → Prop} {Q' : Exit → Act → World → Prop} (hQ : ∀ e S a w, Conc N w0 g0 e S a w → Q e S → Q' .normal a w) :
    ∀ (l : List Oper) (_ : ∀ o ∈ l, ∃ i : Nat, ops[i]? = some o) (e : Env) (S : Store) (a : Act) (w : World), Conc N w0 g0 e S a w → wpL P cls ops Q l e S → wpList P ops Q' l a w
  | [], _, e, S, a, w, hc, h => hQ e S a w hc h
  | o :: l, hl, e, S, a, w, hc, h => by
    obtain ⟨i, hi⟩ := hl o (by simp)
    have hd := dstsOk_spec hds hi
    have her : ∃ g, ERel w g e a := by obtain ⟨_, _, g, _, h4, _⟩ := hc; exact ⟨g, h4⟩
    obtain ⟨g, her⟩ := her
    unfold wpL at h
    unfold wpList
    split at h
    · rename_i hw
      rw [aWant_ok her hw]
      obtain ⟨v, S', h1, h2⟩ := h
      simp only [if_true]
      exact .inl (hc.does hd h1.does fun a' w' hc' => wpList_of_L hds hQ l (fun o ho => hl o (by simp [ho])) _ _ a' w' hc' h2)
    · rename_i hw
      rw [aWant_ok her hw]
      simp only [Bool.false_eq_true, if_false]
      exact wpList_of_L hds hQ l (fun o ho => hl o (by simp [ho])) _ _ _ w (hc.skip hd) h
    · exact h.elim
theorem region_list {cls : Op → Cls} {ops : Array Oper} {id : Nat} {Q : Env → Store → Prop} {Q' : Exit → Act → World → Prop} {e : Env} {S : Store} {a : Act} {w : World} (hds : dstsOk N ops = true)
    (hQ : ∀ e S a w, Conc N w0 g0 e S a w → Q e S → Q' .normal a w) (hc : Conc N w0 g0 e S a w) (h : wpL P cls ops Q ops.toList e S) : (Code.region id ops false).wp P Q' a w :=
  wp_region_list (wpList_of_L hds hQ ops.toList (fun o ho => by
    obtain ⟨i, hi⟩ := List.mem_iff_getElem?.1 ho
    exact ⟨i, by simpa using hi⟩) e S a w hc h)
end
end Go.Proofs.Ytknbnhmenohacaa.Pe
