/- Several texts of this claim in one. -/
import Derived.Test.YtlefikdjhnaapaaGreatDoorKu1
import Derived.Lib.AppendStr
import Derived.RangeFuncNested
import Derived.RangeFuncRecord
import Derived.OrdersIn
import Derived.TacticsIn
import Derived.MapKept
import Derived.Laws.MakeOwn
import Derived.Still
import Derived.Deep.LoopGhost
set_option linter.unusedSectionVars false
set_option linter.unusedVariables false
set_option linter.unusedSimpArgs false
section
namespace Go.Proofs.YtlefikdjhnaapaaGreatDoor.Pe
open Go Go.RowKit
variable [Tab]
section
variable {w w' : World} {g g' : Gh} {S : Store} {l : Nat} {o : SObj}
theorem ObjOk.keep (h : ObjOk w g l o) (hl : Le w g w' g') (hpl : g'.pl l = g.pl l) (hbuf : g'.buf l = g.buf l) (hwm : g'.wm l = g.wm l) (hcap : g'.cap l = g.cap l) (hown : g'.own l = g.own l)
  (hG : ∀ b, g.own l b → g'.G b = g.G b) (hheap : ∀ b, g.own l b → w'.heap[b]? = w.heap[b]?) : ObjOk w' g' l o := by
 cases o with
 | cells cs =>
  obtain ⟨h1, h2, h3, arr, T, fr, h4, h5, h6, h7, h8⟩ := h
  refine ⟨by rw [hbuf]; exact h1, by rw [hown, hpl]; exact h2, by rw [hpl, hG _ h2]; exact h3, arr, T, fr, by rw [hpl, hheap _ h2]; exact h4, h5, h6, h7, fun j u v hu hv => (h8 j u v hu hv).le hl⟩
 | buf n e sz =>
  obtain ⟨h1, h2, h3⟩ := h
  refine ⟨by rw [hbuf]; exact h1, by rw [hwm]; exact h2, ?_⟩
  rcases h3 with h3 | ⟨h3, h4, h5, h6, cur, fr, h7, h8, h9⟩
  ·exact .inl (by rw [hcap]; exact h3)
  ·exact .inr ⟨by rw [hown, hpl]; exact h3, h4, by rw [hcap]; exact h5, by rw [hpl, hG _ h3]; exact h6, cur, fr, by rw [hpl, hheap _ h3]; exact h7, h8, by rw [hcap]; exact h9⟩
 | ext X =>
  obtain ⟨h1, h2, h3, h4⟩ := h
  refine ⟨by rw [hbuf]; exact h1, by rw [hown, hpl]; exact h2, fun b hb => ?_, fun w'' hw => ?_⟩
  ·rw [hown] at hb; rw [hG b hb]; exact h3 b hb
  ·rw [hown, hpl]
   exact h4 w'' fun b hb => by rw [hw b (by rw [hown]; exact hb), hheap b hb]
 | map es =>
  obtain ⟨h1, h2, h3, me, clock, h4, h5, h6, h7, h8⟩ := h
  exact ⟨by rw [hbuf]; exact h1, by rw [hown, hpl]; exact h2, by rw [hpl, hG _ h2]; exact h3, me, clock, by rw [hpl, hheap _ h2]; exact h4, h5, h6, h7, fun j u x hu hx => ⟨(h8 j u x hu hx).1.le hl, (h8 j u x hu hx).2.le hl⟩⟩
 | siter s pos =>
  obtain ⟨h1, h2, h3, h4⟩ := h
  exact ⟨by rw [hbuf]; exact h1, by rw [hown, hpl]; exact h2, by rw [hpl, hG _ h2]; exact h3, by rw [hpl, hheap _ h2]; exact h4⟩
 | dead => trivial
 | loop b D fn es ps asn bdy st =>
  obtain ⟨h1, h2, h3, h4, tmps, h5, h6, h7⟩ := h
  exact ⟨by rw [hbuf]; exact h1, by rw [hown, hpl]; exact h2, by rw [hpl, hG _ h2]; exact h3, by rw [hpl]; exact h4, tmps, by rw [hpl, hheap _ h2]; exact h5, h6, fun j u x hu hx => (h7 j u x hu hx).le hl⟩
 | row cs e sz =>
  obtain ⟨h1, h2, h3⟩ := h
  refine ⟨by rw [hbuf]; exact h1, by rw [hwm]; exact h2, ?_⟩
  rcases h3 with ⟨h3, h4⟩ | ⟨h3, h4, arr, fr, h5, h6, h7, h8, h9, h10⟩
  ·exact .inl ⟨by rw [hcap]; exact h3, h4⟩
  ·exact .inr ⟨by rw [hown, hpl]; exact h3, by rw [hpl, hG _ h3]; exact h4, arr, fr, by rw [hpl, hheap _ h3]; exact h5, h6, by rw [hcap]; exact h7, h8, h9, fun j u v hu hv => (h10 j u v hu hv).le hl⟩
theorem WF.touch (h : WF w g S) (hl : l < S.length) (hle : Le w g w' g') (hnid : g'.nid = g.nid)
  (hsame : ∀ k, k ≠ l → k < g.nid → g'.pl k = g.pl k ∧ g'.buf k = g.buf k ∧ g'.wm k = g.wm k ∧ g'.cap k = g.cap k ∧ g'.own k = g.own k)
  (hownl : ∀ b, g'.own l b → g.own l b ∨ (w.heap.size ≤ b ∧ b < w'.heap.size)) (hsize : w.heap.size ≤ w'.heap.size)
  (hG : ∀ b, b < w.heap.size → ¬ g.own l b → g'.G b = g.G b) (hheap : ∀ b, b < w.heap.size → ¬ g.own l b → w'.heap[b]? = w.heap[b]?)
  (hobj : ObjOk w' g' l o) : WF w' g' (S.set l o) := by
 have hn : g.nid = S.length := h.nid
 refine ⟨by rw [hnid, hn, List.length_set], fun k o' hk => ?_, fun k k' b hk hk' hb hb' => ?_, fun k b hk hb => ?_, h.tab.le hle⟩
 ·by_cases hkl : k = l
  ·subst hkl
   rw [List.getElem?_set_self hl] at hk
   cases hk
   exact hobj
  ·rw [List.getElem?_set_ne (fun e => hkl e.symm)] at hk
   have hkn : k < g.nid := by rw [hn]; exact (List.getElem?_eq_some_iff.1 hk).1
   obtain ⟨e1, e2, e3, e4, e5⟩ := hsame k hkl hkn
   have hno : ∀ b, g.own k b → ¬ g.own l b := fun b hb hb' => hkl (h.disj k l b hkn (by omega) hb hb')
   exact (h.obj k o' hk).keep hle e1 e2 e3 e4 e5 (fun b hb => hG b (h.lt k b hkn hb) (hno b hb)) (fun b hb => hheap b (h.lt k b hkn hb) (hno b hb))
 ·rw [hnid] at hk hk'
  have key : ∀ k, k < g.nid → k ≠ l → g'.own k b → g.own l b ∨ (w.heap.size ≤ b ∧ b < w'.heap.size) → False := by
   intro k hk hkl hb hb'
   rw [(hsame k hkl hk).2.2.2.2] at hb
   rcases hb' with hb' | hb'
   ·exact hkl (h.disj k l b hk (by omega) hb hb')
   ·have := h.lt k b hk hb; omega
  by_cases h1 : k = l <;> by_cases h2 : k' = l
  ·rw [h1, h2]
  ·subst h1; exact (key k' hk' h2 hb' (hownl b hb)).elim
  ·subst h2; exact (key k hk h1 hb (hownl b hb')).elim
  ·rw [(hsame k h1 hk).2.2.2.2] at hb
   rw [(hsame k' h2 hk').2.2.2.2] at hb'
   exact h.disj k k' b hk hk' hb hb'
 ·rw [hnid] at hk
  by_cases h1 : k = l
  ·subst h1
   rcases hownl b hb with hb | hb
   ·have := h.lt k b hk hb; omega
   ·exact hb.2
  ·rw [(hsame k h1 hk).2.2.2.2] at hb
   have := h.lt k b hk hb; omega
def Gh.stab (g : Gh) (b n : Nat) : Gh := { g with G := fun x => if x = b then n else g.G x }
theorem Le.stab_new (w : World) (g : Gh) (o : Obj) (n : Nat) : Le w g (w.alloc o) (g.stab w.heap.size n) := by
 refine ⟨fun b o' v _ hv => ?_, fun b o' v hb hv => ?_, Nat.le_refl _, fun _ _ => ⟨rfl, .inl ⟨rfl, rfl, rfl⟩⟩, fun b me c hg hm => by
  have hlt := (Array.getElem?_eq_some_iff.1 hm).1
  exact ⟨by simp only [Gh.stab]; rw [if_neg (show b ≠ w.heap.size from Nat.ne_of_lt hlt)]; exact hg, (heap_alloc_old w o hlt).trans hm⟩⟩
 ·have hlt := World.block_lt_of_cell? w _ hv
  rw [World.cell?_alloc_lt w o _ hlt]
  exact hv
 ·have hlt := World.block_lt_of_cell? w _ hv
  simp only [Gh.stab]
  rw [if_neg (show b ≠ w.heap.size from Nat.ne_of_lt hlt)]
  exact hb
theorem WF.alloc_stab (h : WF w g S) (o : Obj) (n : Nat) : WF (w.alloc o) (g.stab w.heap.size n) S ∧ Evo w g (w.alloc o) (g.stab w.heap.size n) := by
 have hle := Le.stab_new w g o n
 refine ⟨⟨h.nid, fun l o' hl => ?_, h.disj, fun l b hl hb => ?_, h.tab.le hle⟩, ⟨hle, rfl, rfl, rfl, by simp, fun b hb _ => heap_alloc_old w o hb, fun l b hl hb _ => ⟨hl, hb⟩, fun b hb _ => if_neg (Nat.ne_of_lt hb)⟩⟩
 ·have hlt : l < g.nid := by rw [h.nid]; exact (List.getElem?_eq_some_iff.1 hl).1
  refine (h.obj l o' hl).keep hle rfl rfl rfl rfl rfl (fun b hb => ?_) (fun b hb => heap_alloc_old w o (h.lt l b hlt hb))
  simp only [Gh.stab]
  rw [if_neg (Nat.ne_of_lt (h.lt l b hlt hb))]
 ·have := h.lt l b hl hb
  show b < (w.heap.push o).size
  simp; omega
def Gh.push (g : Gh) (b : Nat) (isBuf : Bool) (wm cap n : Nat) : Gh :=
 { G := fun x => if x = b then n else g.G x, pl := fun k => if k = g.nid then b else g.pl k, own := fun k x => if k = g.nid then x = b else g.own k x, nid := g.nid + 1, buf := fun k => if k = g.nid then isBuf else g.buf k, wm := fun k => if k = g.nid then wm else g.wm k, cap := fun k => if k = g.nid then cap else g.cap k }
theorem Le.push_new (w : World) (g : Gh) (o : Obj) (isBuf : Bool) (wm cap n : Nat) : Le w g (w.alloc o) (g.push w.heap.size isBuf wm cap n) := by
 refine ⟨fun b o' v _ hv => ?_, fun b o' v hb hv => ?_, by simp [Gh.push], fun k hk => ?_, fun b me c hg hm => by
  have hlt := (Array.getElem?_eq_some_iff.1 hm).1
  exact ⟨by simp only [Gh.push]; rw [if_neg (show b ≠ w.heap.size from Nat.ne_of_lt hlt)]; exact hg, (heap_alloc_old w o hlt).trans hm⟩⟩
 ·have hlt := World.block_lt_of_cell? w _ hv
  rw [World.cell?_alloc_lt w o _ hlt]
  exact hv
 ·have hlt := World.block_lt_of_cell? w _ hv
  simp only [Gh.push]
  rw [if_neg (show b ≠ w.heap.size from Nat.ne_of_lt hlt)]
  exact hb
 ·have : k ≠ g.nid := Nat.ne_of_lt hk
  simp [Gh.push, this]
theorem WF.alloc_push (h : WF w g S) (ob : Obj) (isBuf : Bool) (wm cap n : Nat) (hobj : ObjOk (w.alloc ob) (g.push w.heap.size isBuf wm cap n) g.nid o) :
  WF (w.alloc ob) (g.push w.heap.size isBuf wm cap n) (S ++ [o]) ∧ Evo w g (w.alloc ob) (g.push w.heap.size isBuf wm cap n) := by
 have hle := Le.push_new w g ob isBuf wm cap n
 have hn := h.nid
 have hown : ∀ k, k < g.nid → (g.push w.heap.size isBuf wm cap n).own k = g.own k := fun k hk => by
  funext x; simp [Gh.push, Nat.ne_of_lt hk]
 have hownn : ∀ b, (g.push w.heap.size isBuf wm cap n).own g.nid b ↔ b = w.heap.size := fun b => by simp [Gh.push]
 have hlast : ∀ k, k < (g.push w.heap.size isBuf wm cap n).nid → k < g.nid ∨ k = g.nid := fun k hk => by simp only [Gh.push] at hk; omega
 refine ⟨⟨by simp [Gh.push, hn], fun k o' hk => ?_, fun k k' b hk hk' hb hb' => ?_, fun k b hk hb => ?_, h.tab.le hle⟩, ⟨hle, rfl, rfl, rfl, by simp, fun b hb _ => heap_alloc_old w ob hb, fun k b hk hb hlt => ?_, fun b hb _ => if_neg (Nat.ne_of_lt hb)⟩⟩
 ·by_cases hkl : k < S.length
  ·rw [List.getElem?_append_left hkl] at hk
   have hkn : k < g.nid := by omega
   have hne : k ≠ g.nid := by omega
   refine (h.obj k o' hk).keep hle (by simp [Gh.push, hne]) (by simp [Gh.push, hne]) (by simp [Gh.push, hne]) (by simp [Gh.push, hne]) (hown k hkn) (fun b hb => ?_) (fun b hb => heap_alloc_old w ob (h.lt k b hkn hb))
   simp only [Gh.push]
   rw [if_neg (Nat.ne_of_lt (h.lt k b hkn hb))]
  ·rw [List.getElem?_append_right (by omega)] at hk
   have hk0 : k - S.length = 0 := by
    have := (List.getElem?_eq_some_iff.1 hk).1
    simp at this; omega
   rw [hk0] at hk
   cases hk
   have : k = g.nid := by omega
   subst this
   exact hobj
 ·rcases hlast k hk with h1 | h1 <;> rcases hlast k' hk' with h2 | h2
  ·rw [hown k h1] at hb; rw [hown k' h2] at hb'
   exact h.disj k k' b h1 h2 hb hb'
  ·subst h2
   rw [hown k h1] at hb; rw [hownn] at hb'
   have := h.lt k b h1 hb; omega
  ·subst h1
   rw [hown k' h2] at hb'; rw [hownn] at hb
   have := h.lt k' b h2 hb'; omega
  ·omega
 ·show b < (w.heap.push ob).size
  rw [Array.size_push]
  rcases hlast k hk with h1 | h1
  ·rw [hown k h1] at hb
   have := h.lt k b h1 hb; omega
  ·subst h1
   rw [hownn] at hb; omega
 ·rcases hlast k hk with h1 | h1
  ·rw [hown k h1] at hb
   exact ⟨h1, hb⟩
  ·subst h1
   rw [hownn] at hb; omega
theorem WF.new_cells (h : WF w g S) {cs : List AV} {arr : Array Value} (hc : CellsRel w g cs arr) (T : TypeId) :
  ∃ g', WF (w.alloc (.cells arr T)) g' (S ++ [.cells cs]) ∧ Evo w g (w.alloc (.cells arr T)) g' ∧ Rel (w.alloc (.cells arr T)) g' (.ptr S.length 0) (.pointer (some ⟨w.heap.size, 0, none⟩)) := by
 have hle := Le.push_new w g (.cells arr T) false 0 0 0
 have hr := hc.le hle
 obtain ⟨h1, h2⟩ := h.alloc_push (.cells arr T) false 0 0 0 (o := .cells cs) (by
  refine ⟨by simp [Gh.push], by simp [Gh.push], by simp [Gh.push], arr, T, (0, 0), ?_, Nat.le_refl _, hr.1, hr.2.1, hr.2.2⟩
  simp only [Gh.push, if_true]
  exact heap_alloc_new w _)
 refine ⟨_, h1, h2, ?_⟩
 have := Rel.ptr (w := w.alloc (.cells arr T)) (g.push w.heap.size false 0 0 0) g.nid 0 (by simp [Gh.push]) (by simp [Gh.push])
 have hp : (g.push w.heap.size false 0 0 0).pl g.nid = w.heap.size := by simp [Gh.push]
 rw [hp] at this
 have hn := h.nid
 rw [hn] at this
 exact this
end
end Go.Proofs.YtlefikdjhnaapaaGreatDoor.Pe
namespace Go.Proofs.YtlefikdjhnaapaaGreatDoor.Pe
open Go Go.RowKit
variable [Tab]
def wR (ro : Option Nat) : Fence := { Fence.wide with round := ro }
def wq (P : Program) (o : Oper) (a : Act) (w : World) (K : Act → World → Prop) (Q : Exit → Act → World → Prop) : Prop := ∀ ro : Option Nat, o.wpIn (wR ro) 0 P a w K Q
theorem no_defer {P : Program} {ρ : Operand → Value} {o : Oper} {w w' : World} {x : Next} (h : (execOp ρ o).run P w = .ok x w') (hx : ∀ d, x ≠ .defer d) : ∀ c, o.op ≠ .defer c := by
 intro c ho
 unfold execOp at h
 rw [ho] at h
 simp only [Sem.run_bind] at h
 cases hr : (resolve ρ c o.type).run P w with
 | ok d w1 =>
  rw [hr] at h
  simp only [Result.andThen_ok, Sem.run_pure, Result.ok.injEq] at h
  exact hx d h.1.symm
 | halt q w1 => rw [hr] at h; cases h
theorem wq_of {P : Program} {o : Oper} {a : Act} {w w' : World} {x : Next} {K : Act → World → Prop} {Q : Exit → Act → World → Prop} (h : (execOp a.eval o).run P w = .ok x w') (hx : ∀ d, x ≠ .defer d)
  (hu : ∀ ro, o.uponIn (wR ro) 0 P a K Q (.ok x w')) : wq P o a w K Q := fun ro => ⟨fun _ _ => trivial, by
 rw [Oper.semAt_eq _ _ _ (no_defer h hx), h]
 exact hu ro⟩
theorem wq_value {P : Program} {o : Oper} {a : Act} {w w' : World} {cv : Value} {K : Act → World → Prop} {Q : Exit → Act → World → Prop} (h : (execOp a.eval o).run P w = .ok (.value cv) w') (hK : K (a.put o.dst cv) w') : wq P o a w K Q :=
 wq_of h (fun _ e => by cases e) fun _ => hK
theorem wq_skip {P : Program} {o : Oper} {a : Act} {w w' : World} {K : Act → World → Prop} {Q : Exit → Act → World → Prop} (h : (execOp a.eval o).run P w = .ok .skip w') (hK : K (a.put o.dst undef) w') : wq P o a w K Q :=
 wq_of h (fun _ e => by cases e) fun _ => hK
theorem calls_wR {P : Program} {f : FuncId} {args : Array Value} {w : World} {R : Ending → World → Prop} (h : Calls P f args w R) (ro : Option Nat) (n : Nat) : CallsIn (wR ro) n P f args w R := (callsIn_wide (n := n)).2 h
theorem wq_enter {P : Program} {o : Oper} {a : Act} {w w' : World} {f : FuncId} {args : Array Value} {K : Act → World → Prop} {Q : Exit → Act → World → Prop} (h : (execOp a.eval o).run P w = .ok (.enter f args) w')
  (hc : Calls P f args w' fun r w'' => ∃ cv, r = .returned cv ∧ K (a.put o.dst cv) w'') : wq P o a w K Q :=
 wq_of h (fun _ e => by cases e) fun ro => by
  rw [Oper.uponIn_enter]
  refine ⟨fun e => by simp [wR, Fence.wide] at e, CallsIn.mono (calls_wR hc ro _) ?_⟩
  rintro r w'' ⟨cv, rfl, hk⟩
  exact hk
def Does (P : Program) (o : Oper) (e : Env) (S : Store) (v : AV) (S' : Store) : Prop :=
 ∀ (a : Act) (w : World) (g : Gh), WF w g S → (∀ x, x ∈ o.op.operands.toList → Rel w g (ev e x) (a.eval x)) → ∀ (K : Act → World → Prop) (Q : Exit → Act → World → Prop),
  (∀ cv w' g', WF w' g' S' → Rel w' g' v cv → Evo w g w' g' → K (a.put o.dst cv) w') → wq P o a w K Q
section
variable {P : Program}
theorem does_value {o : Oper} {e : Env} {S S' : Store} {v : AV} (h : ∀ (ρ : Operand → Value) (w : World) (g : Gh), WF w g S → (∀ x, x ∈ o.op.operands.toList → Rel w g (ev e x) (ρ x)) →
  ∃ cv w' g', (execOp ρ o).run P w = .ok (.value cv) w' ∧ WF w' g' S' ∧ Rel w' g' v cv ∧ Evo w g w' g') : Does P o e S v S' := by
 intro a w g hw hr K Q hK
 obtain ⟨cv, w', g', h1, h2, h3, h4⟩ := h a.eval w g hw hr
 exact wq_value h1 (hK cv w' g' h2 h3 h4)
theorem does_skip {o : Oper} {e : Env} {S S' : Store} (h : ∀ (ρ : Operand → Value) (w : World) (g : Gh), WF w g S → (∀ x, x ∈ o.op.operands.toList → Rel w g (ev e x) (ρ x)) →
  ∃ w' g', (execOp ρ o).run P w = .ok .skip w' ∧ WF w' g' S' ∧ Evo w g w' g') : Does P o e S .junk S' := by
 intro a w g hw hr K Q hK
 obtain ⟨w', g', h1, h2, h4⟩ := h a.eval w g hw hr
 exact wq_skip h1 (hK undef w' g' h2 (.junk _ _) h4)
theorem does_aval {o : Oper} {e : Env} {S : Store} {v : AV} (h : aval P e o.op = some v) : Does P o e S v S :=
 does_value fun ρ w g hw hr => by
  obtain ⟨cv, h1, h2⟩ := aval_ok (w := w) (g := g) h hr
  exact ⟨cv, w, g, h1, hw, h2, Evo.refl w g⟩
def nilV : Value → Bool
 | .slice none _ _ => true
 | _ => false
def nilC : Operand → Bool
 | .const v => nilV v
 | _ => false
def aNilEq (op : BinOp) (x : AV) : Option AV :=
 match x with
 | .sl _ (_ :: _) => match op with
  | .eql => some (.bo false)
  | .neq => some (.bo true)
  | _ => none
 | .ot (.slice A _ _) => match op with
  | .eql => some (.bo A.isNone)
  | .neq => some (.bo A.isSome)
  | _ => none
 | _ => none
def aBinO (P : Program) (op : BinOp) (t : TypeId) (e : Env) (x y : Operand) : Option AV :=
 if nilC y then (if (sleOf P t).isSome then aNilEq op (ev e x) else none) else aBin P op t (ev e x) (ev e y)
theorem nil_eq {w : World} {t : TypeId} (ht : (sleOf P t).isSome = true) (A : Option Addr) (n c m k : Nat) : (Op.equal t (.slice A n c) (.slice none m k)).run P w = .ok A.isNone w := by
 obtain ⟨⟨e, sz, ag⟩, hs⟩ := Option.isSome_iff_exists.1 ht
 have hu := (sleOf_spec hs).1
 have h0 : ∀ d, (Op.equalIn (d + 1) t (.slice A n c) (.slice none m k)).run P w = .ok A.isNone w := fun d => by
  cases A <;> simp [Op.equalIn, run_underlying hu]
 exact h0 9999
theorem does_nilEq {o : Oper} {e : Env} {S : Store} {v : AV} {op : BinOp} {t yt : TypeId} {x y : Operand} (ho : o.op = .binOp op t x y yt) (hy : nilC y = true) (ht : (sleOf P t).isSome = true) (h : aNilEq op (ev e x) = some v) : Does P o e S v S := by
 intro a w g hw hr K Q hK
 obtain ⟨m, k, rfl⟩ : ∃ m k, y = .const (.slice none m k) := by
  cases y with
  | const c =>
   cases c with
   | slice A m k => cases A with
    | none => exact ⟨m, k, rfl⟩
    | some _ => simp [nilC, nilV] at hy
   | _ => simp [nilC, nilV] at hy
  | _ => simp [nilC] at hy
 have hx := hr x (by rw [ho]; simp [Op.operands])
 have hrun : ∃ cv, (do eqGuard op t x (.const (.slice none m k)) (a.eval x) (.slice none m k); binOp op t (a.eval x) (.slice none m k) : Sem Value).run P w = .ok cv w ∧ Rel w g v cv := by
  generalize a.eval x = cx at hx
  generalize ev e x = X at hx h
  have key : ∀ (A : Option Addr) (n c : Nat), cx = .slice A n c → (op = .eql ∧ v = .bo A.isNone ∨ op = .neq ∧ v = .bo A.isSome) →
    ∃ cv, (do eqGuard op t x (.const (.slice none m k)) cx (.slice none m k); binOp op t cx (.slice none m k) : Sem Value).run P w = .ok cv w ∧ Rel w g v cv := by
   rintro A n c rfl hop
   have he := nil_eq (w := w) ht A n c m k
   rcases hop with ⟨rfl, rfl⟩ | ⟨rfl, rfl⟩
   ·exact ⟨.bool A.isNone, by simp [eqGuard, binOp, he], .bo g _⟩
   ·exact ⟨.bool A.isSome, by cases A <;> simp [eqGuard, binOp, he], .bo g _⟩
  unfold aNilEq at h
  split at h
  ·cases hx with
   | sl _ _ _ A c sz cu hc hcm hsz hA h1 hr hm =>
    obtain ⟨b, o', rfl, _⟩ := hA (by simp)
    refine key _ _ _ rfl ?_
    split at h <;> cases h
    ·exact .inl ⟨rfl, rfl⟩
    ·exact .inr ⟨rfl, rfl⟩
  ·cases hx
   refine key _ _ _ rfl ?_
   split at h <;> cases h
   ·exact .inl ⟨rfl, rfl⟩
   ·exact .inr ⟨rfl, rfl⟩
  ·cases h
 obtain ⟨cv, h1, h2⟩ := hrun
 have hrun : (execOp a.eval o).run P w = .ok (.value cv) w := by
  unfold execOp
  rw [ho]
  dsimp only
  rw [Sem.run_bind]
  have he : a.eval (.const (.slice none m k)) = .slice none m k := rfl
  rw [he, h1]
  rfl
 exact wq_value hrun (hK cv w g hw h2 (Evo.refl w g))
def aLoad (sz : Option (Nat × Bool)) (S : Store) (x : AV) : Option AV :=
 match sz, x with
 | some (sz, ag), .ptr l off => match S[l]? with
  | some (.cells cs) => apart cs off sz ag
  | _ => none
 | some (sz, ag), .pst v off => apart v.cells off sz ag
 | some (sz, ag), .wr l n (some off) => match S[l]? with
  | some (.row cs _ z) => if 0 < sz ∧ cs.length = n * z then apart cs off sz ag else none
  | _ => none
 | _, _ => none
theorem Rel.ofNoid {w : World} {g : Gh} {v : AV} {cv : Value} (h : Rel w g.noid v cv) : Rel w g v cv :=
 h.le ⟨fun _ _ _ _ h => h, fun _ _ _ h _ => h, Nat.zero_le _, fun l hl => absurd hl (Nat.not_lt_zero _), fun _ _ _ h h' => ⟨h, h'⟩⟩
theorem loadVar_cells (w : World) {ty sz : Nat} {ag : Bool} (ht : szOf P ty = some (sz, ag)) (b o : Nat) (us : List Value) (hl : us.length = sz) (hag : ag = true)
  (hc : ∀ (j : Nat) u, us[j]? = some u → w.cell? ⟨b, o + j, none⟩ = some u) : (loadVar ty ⟨b, o, none⟩).run P w = .ok (.agg us.toArray) w := by
 subst hag
 have hl' : (loadCells ⟨b, o, none⟩ us.length).run P w = .ok us.toArray w := run_loadCells_list (P := P) w ⟨b, o, none⟩ us (fun j v hv => by rw [Addr.add_lit]; exact hc j v hv)
 rw [hl] at hl'
 simp [loadVar, run_isAgg ht, run_sizeOf ht, hl']
theorem loadVar_one (w : World) {ty sz : Nat} (ht : szOf P ty = some (sz, false)) (a : Addr) (u : Value) (hc : w.cell? a = some u) : (loadVar ty a).run P w = .ok u w := by
 simp [loadVar, run_isAgg ht, hc]
theorem load_from {w : World} {g : Gh} {cs : List AV} {arr : Array Value} (hc : CellsRel w g cs arr) {b o : Nat} (hcell : ∀ j, j < arr.size → w.cell? ⟨b, o + j, none⟩ = arr[j]?)
  {ty off sz : Nat} {ag : Bool} (ht : szOf P ty = some (sz, ag)) {v : AV} (h : apart cs off sz ag = some v) : ∃ cv, (loadVar ty ⟨b, o + off, none⟩).run P w = .ok cv w ∧ Rel w g v cv := by
 cases ag with
 | true =>
  obtain ⟨h1, h2⟩ := apart_agg hc.1 hc.2.1 hc.2.2 h
  refine ⟨.agg (arr.extract off (off + sz)), ?_, h2⟩
  have hl : ((arr.extract off (off + sz)).toList).length = sz := by simp; omega
  have := loadVar_cells (P := P) w ht b (o + off) (arr.extract off (off + sz)).toList hl rfl (fun j u hu => by
   have hu' := hu
   rw [Array.getElem?_toList] at hu'
   rw [Array.getElem?_extract] at hu'
   split at hu'
   ·have hlt := (Array.getElem?_eq_some_iff.1 hu').1
    rw [Nat.add_assoc, hcell _ hlt]
    exact hu'
   ·cases hu')
  rw [Array.toArray_toList] at this
  exact this
 | false =>
  simp only [apart, Bool.false_eq_true, if_false] at h
  have hlt : off < cs.length := (List.getElem?_eq_some_iff.1 h).1
  have hlt' : off < arr.size := by rw [hc.1]; exact hlt
  have hv : arr[off]? = some arr[off] := Array.getElem?_eq_getElem hlt'
  exact ⟨arr[off], loadVar_one w ht _ _ (by rw [hcell _ hlt', hv]), hc.2.2 off v _ h hv⟩
theorem obj_cells {w : World} {g : Gh} {S : Store} (h : WF w g S) {l : Nat} {cs : List AV} (hl : S[l]? = some (.cells cs)) : ∃ arr T, ∃ fr : Nat × Nat, w.heap[g.pl l]? = some (.cells arr T fr) ∧ fr.2 ≤ fr.1 ∧ CellsRel w g cs arr ∧
  l < g.nid ∧ g.buf l = false ∧ g.own l (g.pl l) ∧ g.G (g.pl l) = 0 := by
 obtain ⟨h1, h2, h3, arr, T, fr, h4, h5, h6, h7, h8⟩ := h.obj l _ hl
 exact ⟨arr, T, fr, h4, h5, ⟨h6, h7, h8⟩, by rw [h.nid]; exact (List.getElem?_eq_some_iff.1 hl).1, h1, h2, h3⟩
theorem obj_row {w : World} {g : Gh} {S : Store} (h : WF w g S) {l : Nat} {cs : List AV} {e : TypeId} {sz : Nat} (hl : S[l]? = some (.row cs e sz)) (hne : cs ≠ []) : ∃ arr, ∃ fr : Nat × Nat, w.heap[g.pl l]? = some (.cells arr e fr) ∧ fr.2 ≤ fr.1 ∧ CellsRel w g cs (arr.extract 0 cs.length) ∧
  l < g.nid ∧ g.buf l = true ∧ g.own l (g.pl l) ∧ g.G (g.pl l) = 0 ∧ arr.size = g.cap l * sz ∧ cs.length ≤ arr.size ∧ (0 < sz ∧ cs.length = g.wm l * sz) := by
 obtain ⟨h1, h2, h3⟩ := h.obj l _ hl
 rcases h3 with ⟨_, h4⟩ | ⟨h3, h4, arr, fr, h5, h6, h7, h8, h9, h10⟩
 ·exact absurd h4 hne
 ·refine ⟨arr, fr, h5, h6, ⟨by simp; omega, fun v hv => ?_, fun j u v hu hv => h10 j u v hu ?_⟩, by rw [h.nid]; exact (List.getElem?_eq_some_iff.1 hl).1, h1, h3, h4, h7, h8, h2⟩
  ·obtain ⟨j, hj⟩ := List.mem_iff_getElem?.1 hv
   rw [Array.getElem?_toList, Array.getElem?_extract] at hj
   split at hj
   ·rename_i hlt
    exact h9 j v (by simpa using hj) (by omega)
   ·cases hj
  ·rw [Array.getElem?_extract] at hv
   split at hv
   ·simpa using hv
   ·cases hv
theorem apart_ne {cs : List AV} {off sz : Nat} {ag : Bool} {v : AV} (h : apart cs off sz ag = some v) (h0 : 0 < sz) : cs ≠ [] := by
 rintro rfl
 unfold apart at h
 cases ag with
 | true =>
  simp only [if_true] at h
  split at h
  ·rename_i h1
   simp at h1; omega
  ·split at h
   ·rename_i h1
    simp at h1; omega
   ·cases h
 | false => simp at h
theorem row_ptr {w : World} {g : Gh} {l n off wm sz k : Nat} {cx : Value} (hx : Rel w g (.wr l n (some off)) cx) (hsz : 0 < sz) (h1 : k = g.wm l * sz) (h2 : k = n * sz) : cx = .pointer (some ⟨g.pl l, off, none⟩) := by
 cases hx with
 | wp _ _ _ _ b o hl hb hw hA =>
  have : n = g.wm l := Nat.eq_of_mul_eq_mul_right hsz (by omega)
  rcases hA with hA | ⟨rfl, rfl⟩
  ·omega
  ·rfl
theorem row_load {w : World} {g : Gh} {S : Store} (hw : WF w g S) {ty sz l n off z : Nat} {el : TypeId} {ag : Bool} {cs : List AV} {cx : Value} {v : AV} (hs : szOf P ty = some (sz, ag)) (hS : S[l]? = some (.row cs el z)) (hc0 : 0 < sz ∧ cs.length = n * z) (h : apart cs off sz ag = some v)
  (hx : Rel w g (.wr l n (some off)) cx) : ∃ ad cv, cx = .pointer (some ad) ∧ (loadVar ty ad).run P w = .ok cv w ∧ Rel w g v cv := by
 obtain ⟨arr, fr, h4, h5, hc, hl, _, _, _, _, hle, hz⟩ := obj_row hw hS (apart_ne h hc0.1)
 have hp := row_ptr (wm := 0) hx hz.1 hz.2 hc0.2
 obtain ⟨cv, h1, h2⟩ := load_from (P := P) hc (b := g.pl l) (o := 0) (fun j hj => by
  have hj' : j < cs.length := by simp at hj; omega
  rw [Nat.zero_add, cell_of_row w (g.pl l) j arr el fr h4, Array.getElem?_extract, if_pos (by omega), Nat.zero_add]) hs h
 rw [Nat.zero_add] at h1
 exact ⟨_, cv, hp, h1, h2⟩
theorem does_load {o : Oper} {e : Env} {S : Store} {v : AV} {ty : TypeId} {x : Operand} (ho : o.op = .load ty x) (h : aLoad (szOf P ty) S (ev e x) = some v) : Does P o e S v S :=
 does_value fun ρ w g hw hr => by
  have hx := hr x (by rw [ho]; simp [Op.operands])
  unfold aLoad at h
  split at h
  ·rename_i sz ag l off hs hxe
   split at h
   ·rename_i cs hS
    obtain ⟨arr, T, fr, h4, h5, hc, hl, _⟩ := obj_cells hw hS
    rw [hxe] at hx
    generalize hcx : ρ x = cx at hx
    cases hx
    obtain ⟨cv, h1, h2⟩ := load_from (P := P) hc (b := g.pl l) (o := 0) (fun j hj => by rw [Nat.zero_add, cell_of_row w (g.pl l) j arr T fr h4]) hs h
    rw [Nat.zero_add] at h1
    refine ⟨cv, w, g, ?_, hw, h2, Evo.refl w g⟩
    unfold execOp
    simp only [ho, hcx, Instr.loadAt, Instr.sureAddr, Sem.run_bind, Sem.run_pure, Result.andThen_ok, h1]
   ·cases h
  ·rename_i sz ag v' off hs hxe
   rw [hxe] at hx
   generalize hcx : ρ x = cx at hx
   cases hx with
   | pst _ _ _ b o' cu hA h1 hr' =>
    have hc : CellsRel w g v'.cells ((List.range v'.cells.length).map cu).toArray := by
     refine ⟨by simp, fun u hu => ?_, fun j u z hu hz => ?_⟩
     ·simp only [List.mem_map, List.mem_range] at hu
      obtain ⟨j, hj, rfl⟩ := hu
      exact h1 j hj
     ·have hj := (List.getElem?_eq_some_iff.1 hu).1
      simp [List.getElem?_range hj] at hz
      rw [← hz]
      exact (hr' j u hu).ofNoid
    obtain ⟨cv, h2, h3⟩ := load_from (P := P) hc (b := b) (o := o') (fun j hj => by
     have hj' : j < v'.cells.length := by simpa using hj
     rw [(hA j hj').2]
     simp [List.getElem?_range hj']) hs h
    refine ⟨cv, w, g, ?_, hw, h3, Evo.refl w g⟩
    unfold execOp
    simp only [ho, hcx, Instr.loadAt, Instr.sureAddr, Sem.run_bind, Sem.run_pure, Result.andThen_ok, h2]
  ·rename_i sz ag l n off hs hxe
   split at h
   ·rename_i cs el z hS
    split at h
    ·rename_i hc0
     rw [hxe] at hx
     generalize hcx : ρ x = cx at hx
     obtain ⟨ad, cv, rfl, h1, h2⟩ := row_load (P := P) hw hs hS hc0 h hx
     refine ⟨cv, w, g, ?_, hw, h2, Evo.refl w g⟩
     unfold execOp
     simp only [ho, hcx, Instr.loadAt, Instr.sureAddr, Sem.run_bind, Sem.run_pure, Result.andThen_ok, h1]
    ·cases h
   ·cases h
  ·cases h
def aStore (sz : Option (Nat × Bool)) (S : Store) (x v : AV) : Option Store :=
 match sz, x with
 | some (sz, _), .ptr l off => match S[l]? with
  | some (.cells cs) => if v.solid = true ∧ v.cells.length = sz ∧ off + sz ≤ cs.length then some (S.set l (.cells (aSet cs off v.cells))) else none
  | _ => none
 | some (sz, _), .wr l n (some off) => match S[l]? with
  | some (.row cs e z) => if v.solid = true ∧ v.cells.length = sz ∧ off + sz ≤ cs.length ∧ 0 < sz ∧ cs.length = n * z then some (S.set l (.row (aSet cs off v.cells) e z)) else none
  | _ => none
 | _, _ => none
theorem cells_setRow {w : World} {g : Gh} {cs us : List AV} {arr ua : Array Value} (h : CellsRel w g cs arr) (hu : CellsRel w g us ua) {off : Nat} (hle : off + us.length ≤ cs.length) :
  CellsRel w g (aSet cs off us) (arr.toList.take off ++ ua.toList ++ arr.toList.drop (off + ua.toList.length)).toArray := by
 have hul : ua.toList.length = us.length := by simpa using hu.1
 have hal : arr.toList.length = cs.length := by simpa using h.1
 refine ⟨?_, fun v hv => ?_, fun j u v hju hjv => ?_⟩
 ·rw [aSet_length hle]
  simp only [List.size_toArray, List.length_append, List.length_take, List.length_drop]
  omega
 ·simp only [List.mem_append] at hv
  rcases hv with (hv | hv) | hv
  ·exact h.2.1 v (List.mem_of_mem_take hv)
  ·exact hu.2.1 v hv
  ·exact h.2.1 v (List.mem_of_mem_drop hv)
 ·rw [aSet_get hle] at hju
  simp only [List.getElem?_toArray] at hjv
  rw [List.append_assoc] at hjv
  have hlt : (arr.toList.take off).length = off := by rw [List.length_take]; omega
  by_cases h1 : j < off
  ·rw [if_neg (by omega)] at hju
   rw [List.getElem?_append_left (by omega), List.getElem?_take_of_lt h1] at hjv
   exact h.2.2 j u v hju (by simpa using hjv)
  ·rw [List.getElem?_append_right (by omega), hlt] at hjv
   by_cases h2 : j < off + us.length
   ·rw [if_pos ⟨by omega, h2⟩] at hju
    rw [List.getElem?_append_left (by omega)] at hjv
    exact hu.2.2 _ u v hju (by simpa using hjv)
   ·rw [if_neg (by omega)] at hju
    rw [List.getElem?_append_right (by omega), List.getElem?_drop, show off + ua.toList.length + (j - off - ua.toList.length) = j from by omega] at hjv
    exact h.2.2 j u v hju (by simpa using hjv)
theorem Le.setRow {w : World} {g : Gh} {b : Nat} (h0 : g.G b = 0) (cs : Array Value) : Le w g (w.setRow b cs) g := by
 refine ⟨fun b' o v hb hv => ?_, fun _ _ _ h _ => h, Nat.le_refl _, fun _ _ => ⟨rfl, .inl ⟨rfl, rfl, rfl⟩⟩, fun b' me c hg hm => ⟨hg, (setRow_other w b b' cs (fun e => by subst e; omega)).trans hm⟩⟩
 have hne : b' ≠ b := fun e => by subst e; omega
 rw [World.cell?_of_block (w := w) (w' := w.setRow b cs) (setRow_other w b b' cs hne)]
 exact hv
theorem does_store {o : Oper} {e : Env} {S S' : Store} {ty : TypeId} {x y : Operand} (ho : o.op = .store ty x y) (h : aStore (szOf P ty) S (ev e x) (ev e y) = some S') : Does P o e S .junk S' :=
 does_skip fun ρ w g hw hr => by
  have hx := hr x (by rw [ho]; simp [Op.operands])
  have hy := hr y (by rw [ho]; simp [Op.operands])
  unfold aStore at h
  split at h
  ·rename_i sz ag l off hs hxe
   split at h
   ·rename_i cs hS
    split at h
    ·rename_i hcond
     obtain ⟨hsol, hlen, hle⟩ := hcond
     cases h
     obtain ⟨arr, T, fr, h4, h5, hc, hl, hb, hown, hG⟩ := obj_cells hw hS
     rw [hxe] at hx
     generalize hcx : ρ x = cx at hx
     cases hx
     have hu := cells_of_rel hy hsol
     have hul : (ρ y).cells.toList.length = sz := by have := hu.1; simp; omega
     obtain ⟨i, d, hi1, hi2, hi3, hi4⟩ := szOf_spec hs
     have hst := storeCells_fr (P := P) (g.pl l) off T fr (ρ y).cells.toList 0 arr w h4 (.inl h5) (by rw [hul]; have := hc.1; omega) hu.2.1
     simp only [Nat.add_zero] at hst
     have hle' := Le.setRow (w := w) hG (arr.toList.take off ++ (ρ y).cells.toList ++ arr.toList.drop (off + (ρ y).cells.toList.length)).toArray
     have hnew := cells_setRow hc hu (off := off) (by omega)
     have hlS : l < S.length := (List.getElem?_eq_some_iff.1 hS).1
     refine ⟨w.setRow (g.pl l) _, g, ?_, hw.touch hlS hle' rfl (fun _ _ _ => ⟨rfl, rfl, rfl, rfl, rfl⟩) (fun b hb => .inl hb) (by simp) (fun _ _ _ => rfl) (fun b _ hno => ?_) ?_, ⟨hle', rfl, rfl, rfl, by simp, fun b _ hno => ?_, fun _ _ hk hb _ => ⟨hk, hb⟩, fun _ _ _ => rfl⟩⟩
     ·unfold execOp
      simp only [ho, hcx, Instr.storeAt, Instr.sureAddr, Sem.run_bind, Sem.run_pure, Result.andThen_ok, storeVar, run_sizeOf hs]
      have hsz : (ρ y).cells.size = sz := by rw [hu.1, hlen]
      simp only [hsz, ne_eq, not_true_eq_false, if_false]
      rw [hst]
      rfl
     ·exact setRow_other w _ b _ (fun e => hno (by rw [e]; exact hown))
     ·have hnew := hnew.le hle'
      exact ⟨hb, hown, hG, _, T, fr, setRow_heap w (g.pl l) arr _ T fr h4, h5, hnew.1, hnew.2.1, hnew.2.2⟩
     ·exact setRow_other w _ b _ (fun e => hno l hl (by rw [e]; exact hown))
    ·cases h
   ·cases h
  ·rename_i sz ag l n off hs hxe
   split at h
   ·rename_i cs T z hS
    split at h
    ·rename_i hcond
     obtain ⟨hsol, hlen, hle, hpos, hnz⟩ := hcond
     cases h
     obtain ⟨arr, fr, h4, h5, hc, hl, hb, hown, hG, hcap, hcs, hz⟩ := obj_row hw hS (fun e => by subst e; simp at hle; omega)
     rw [hxe] at hx
     generalize hcx : ρ x = cx at hx
     have hp := row_ptr (wm := 0) hx hz.1 hz.2 hnz
     subst hp
     have hu := cells_of_rel hy hsol
     have hul : (ρ y).cells.toList.length = sz := by have := hu.1; simp; omega
     have hst := storeCells_fr (P := P) (g.pl l) off T fr (ρ y).cells.toList 0 arr w h4 (.inl h5) (by rw [hul]; omega) hu.2.1
     simp only [Nat.add_zero] at hst
     have hle' := Le.setRow (w := w) hG (arr.toList.take off ++ (ρ y).cells.toList ++ arr.toList.drop (off + (ρ y).cells.toList.length)).toArray
     have hnew : ∀ (j : Nat) u v, (aSet cs off (ev e y).cells)[j]? = some u → (arr.toList.take off ++ (ρ y).cells.toList ++ arr.toList.drop (off + (ρ y).cells.toList.length)).toArray[j]? = some v → Rel w g u v := by
      intro j u v hju hjv
      rw [aSet_get (by omega)] at hju
      simp only [List.getElem?_toArray] at hjv
      rw [List.append_assoc] at hjv
      have hlt : (arr.toList.take off).length = off := by simp; omega
      have hlt' : (ev e y).cells.length = sz := hlen
      by_cases h1 : j < off
      ·rw [if_neg (by omega)] at hju
       rw [List.getElem?_append_left (by omega), List.getElem?_take_of_lt h1] at hjv
       have hj : j < cs.length := by omega
       exact hc.2.2 j u v hju (by rw [Array.getElem?_extract, if_pos (by omega)]; simpa using hjv)
      ·rw [List.getElem?_append_right (by omega), hlt] at hjv
       by_cases h2 : j < off + sz
       ·rw [if_pos ⟨by omega, by omega⟩] at hju
        rw [List.getElem?_append_left (by omega)] at hjv
        exact hu.2.2 _ u v hju (by simpa using hjv)
       ·rw [if_neg (by omega)] at hju
        have hj : j < cs.length := (List.getElem?_eq_some_iff.1 hju).1
        rw [List.getElem?_append_right (by omega), List.getElem?_drop, show off + (ρ y).cells.toList.length + (j - off - (ρ y).cells.toList.length) = j from by omega] at hjv
        exact hc.2.2 j u v hju (by rw [Array.getElem?_extract, if_pos (by omega)]; simpa using hjv)
     have hlS : l < S.length := (List.getElem?_eq_some_iff.1 hS).1
     refine ⟨w.setRow (g.pl l) _, g, ?_, hw.touch hlS hle' rfl (fun _ _ _ => ⟨rfl, rfl, rfl, rfl, rfl⟩) (fun b hb => .inl hb) (by simp) (fun _ _ _ => rfl) (fun b _ hno => ?_) ?_, ⟨hle', rfl, rfl, rfl, by simp, fun b _ hno => ?_, fun _ _ hk hb _ => ⟨hk, hb⟩, fun _ _ _ => rfl⟩⟩
     ·unfold execOp
      simp only [ho, hcx, Instr.storeAt, Instr.sureAddr, Sem.run_bind, Sem.run_pure, Result.andThen_ok, storeVar, run_sizeOf hs]
      have hsz : (ρ y).cells.size = sz := by rw [hu.1, hlen]
      simp only [hsz, ne_eq, not_true_eq_false, if_false]
      rw [hst]
      rfl
     ·exact setRow_other w _ b _ (fun e => hno (by rw [e]; exact hown))
     ·refine ⟨hb, ⟨hz.1, by rw [aSet_length (by omega)]; exact hz.2⟩, .inr ⟨hown, hG, _, fr, setRow_heap w (g.pl l) arr _ T fr h4, h5, ?_, ?_, fun j v hjv hj => ?_, fun j u v hju hjv => (hnew j u v hju hjv).le hle'⟩⟩
      ·rw [← hcap]
       simp only [List.size_toArray, List.length_append, List.length_take, List.length_drop, Array.length_toList] at *
       omega
      ·rw [aSet_length (by omega)]
       simp only [List.size_toArray, List.length_append, List.length_take, List.length_drop, Array.length_toList] at *
       omega
      ·rw [aSet_length (by omega)] at hj
       have hat : ∀ (i : Nat) v, arr[i]? = some v → i < cs.length → v.oneCell' = true := fun i v hi hic => hc.2.1 v (List.mem_iff_getElem?.2 ⟨i, by rw [Array.getElem?_toList, Array.getElem?_extract, if_pos (by omega)]; simpa using hi⟩)
       simp only [List.getElem?_toArray] at hjv
       rw [List.append_assoc] at hjv
       have hlt : (arr.toList.take off).length = off := by simp; omega
       by_cases h1 : j < off
       ·rw [List.getElem?_append_left (by omega), List.getElem?_take_of_lt h1] at hjv
        exact hat j v (by simpa using hjv) hj
       ·rw [List.getElem?_append_right (by omega), hlt] at hjv
        by_cases h2 : j < off + sz
        ·rw [List.getElem?_append_left (by omega)] at hjv
         exact hu.2.1 v (List.mem_iff_getElem?.2 ⟨_, hjv⟩)
        ·rw [List.getElem?_append_right (by omega), List.getElem?_drop, show off + (ρ y).cells.toList.length + (j - off - (ρ y).cells.toList.length) = j from by omega] at hjv
         exact hat j v (by simpa using hjv) hj
     ·exact setRow_other w _ b _ (fun e => hno l hl (by rw [e]; exact hown))
    ·cases h
   ·cases h
  ·cases h
theorem does_box {o : Oper} {e : Env} {S : Store} {ty : TypeId} {x : Operand} (ho : o.op = .box ty x) (h : (ev e x).solid = true) : Does P o e S (.ptr S.length 0) (S ++ [.cells (ev e x).cells]) :=
 does_value fun ρ w g hw hr => by
  have hx := hr x (by rw [ho]; simp [Op.operands])
  obtain ⟨g', h1, h2, h3⟩ := hw.new_cells (cells_of_rel hx h) ty
  refine ⟨_, _, g', ?_, h1, h3, h2⟩
  unfold execOp
  simp only [ho, Instr.box, newVar, newRow, newObj, Sem.run_bind, Sem.run_pure, Result.andThen_ok, Sem.run]
  rfl
def Fresh (t : TypeId) : World → Nat → (Nat → Prop) → Prop := fun w p S => S p ∧ w.heap[p]? = some (.cells #[.pointer none, .slice none 0 0] t (0, 0))
def zfr : List AV → Bool
 | [.ot (.pointer none), .sl .full []] => true
 | _ => false
def zobj (t : TypeId) (z : List AV) : SObj := match zfr z with
 | true => .ext (Fresh t)
 | false => .cells z
theorem zfr_spec {arr : Array Value} (h : zfr (arr.toList.map cst1) = true) : arr = #[.pointer none, .slice none 0 0] := by
 obtain ⟨l⟩ := arr
 simp only at h
 have e1 : ∀ v, cst1 v = .ot (.pointer none) → v = .pointer none := fun v hv => by
  unfold cst1 at hv
  split at hv <;> first | (simp only [AV.ot.injEq] at hv; exact hv) | (cases hv; done)
 have e2 : ∀ v, cst1 v = .sl .full [] → v = .slice none 0 0 := fun v hv => by
  unfold cst1 at hv
  split at hv <;> first | rfl | (cases hv; done)
 unfold zfr at h
 split at h
 ·rename_i hl
  match l, hl with
  | [], hl => simp at hl
  | [a], hl => simp at hl
  | [a, b], hl =>
   simp only [List.map_cons, List.map_nil, List.cons.injEq, and_true] at hl
   rw [e1 a hl.1, e2 b hl.2]
  | a :: b :: c :: l, hl => simp at hl
 ·cases h
theorem does_alloc {o : Oper} {e : Env} {S : Store} {ty : TypeId} {z : List AV} (ho : o.op = .alloc ty) (h : zerOf P ty = some z) : Does P o e S (.ptr S.length 0) (S ++ [zobj ty z]) :=
 does_value fun ρ w g hw hr => by
  obtain ⟨i, zv, h1, h2, h3, rfl⟩ := zerOf_spec h
  have hz : (zeroValue ty).run P w = .ok zv w := by simp [zeroValue, typeInfo, h1, h2]
  have key : ∃ g', WF (w.alloc (.cells zv.cells ty)) g' (S ++ [zobj ty (zv.cells.toList.map cst1)]) ∧ Evo w g (w.alloc (.cells zv.cells ty)) g' ∧ Rel (w.alloc (.cells zv.cells ty)) g' (.ptr S.length 0) (.pointer (some ⟨w.heap.size, 0, none⟩)) := by
   unfold zobj
   cases hf : zfr (zv.cells.toList.map cst1) with
   | false => exact hw.new_cells (cst1_cells w g _ h3) ty
   | true =>
    have he := zfr_spec hf
    rw [he]
    obtain ⟨h1, h2⟩ := hw.alloc_push (.cells #[.pointer none, .slice none 0 0] ty) false 0 0 0 (o := .ext (Fresh ty)) (by
     refine ⟨by simp [Gh.push], by simp [Gh.push], fun b hb => by simp only [Gh.push, if_true] at hb ⊢; rw [if_pos hb], fun w' hs => ⟨by simp [Gh.push], ?_⟩⟩
     simp only [Gh.push, if_true] at hs ⊢
     rw [hs _ rfl]
     exact heap_alloc_new w _)
    refine ⟨_, h1, h2, ?_⟩
    have := Rel.ptr (w := w.alloc (.cells #[.pointer none, .slice none 0 0] ty)) (g.push w.heap.size false 0 0 0) g.nid 0 (by simp [Gh.push]) (by simp [Gh.push])
    have hp : (g.push w.heap.size false 0 0 0).pl g.nid = w.heap.size := by simp [Gh.push]
    rw [hp] at this
    have hn := hw.nid
    rw [hn] at this
    exact this
  obtain ⟨g', h4, h5, h6⟩ := key
  refine ⟨_, _, g', ?_, h4, h6, h5⟩
  unfold execOp
  simp only [ho, Instr.alloc, newVar, newRow, newObj, Sem.run_bind, hz, Sem.run_pure, Result.andThen_ok, Sem.run]
  rfl
end
end Go.Proofs.YtlefikdjhnaapaaGreatDoor.Pe
namespace Go.Proofs.YtlefikdjhnaapaaGreatDoor.Pe
open Go Go.RowKit
variable [Tab]
def AV.ro1 : AV → AV
 | .sl (.own _) es => .sl .ro es
 | .ptr _ _ => .junk
 | .mp _ => .junk
 | .ws _ _ _ _ => .junk
 | .wr _ _ _ => .junk
 | .fn f [] [] => .fn f [] []
 | .fn _ _ _ => .junk
 | v => v
def AV.ro : AV → AV
 | .agg cs => .agg (cs.map AV.ro1)
 | .tup _ => .junk
 | v => v.ro1
section
variable {P : Program} {w : World} {g : Gh}
theorem ModeOk.noid {m : Mode} {n c : Nat} {A : Option Addr} (h : ModeOk g m n A c) (hm : ∀ l, m ≠ .own l) : ModeOk g.noid m n A c := by
 cases m with
 | ro => trivial
 | full => exact h
 | own l => exact absurd rfl (hm l)
theorem Rel.ro1 {v : AV} {cv : Value} (h : Rel w g v cv) (hag : ∀ cs, v ≠ .agg cs) (ht : ∀ cs, v ≠ .tup cs) : Rel w g.noid v.ro1 cv := by
 cases h with
 | bo => exact .bo _ _
 | it => exact .it _ _ _
 | st => exact .st _ _
 | ot _ _ h => exact .ot _ _ h
 | junk => exact .junk _ _
 | sl _ m es A c sz cu hc hcm hsz hA h1 hr hm =>
  cases m with
  | ro => exact .sl _ .ro es A c sz cu hc hcm hsz hA h1 hr trivial
  | full => exact .sl _ .full es A c sz cu hc hcm hsz hA h1 hr hm
  | own l => exact .sl _ .ro es A c sz cu hc hcm hsz hA h1 hr trivial
 | agg _ cs => exact absurd rfl (hag cs)
 | tup _ cs => exact absurd rfl (ht cs)
 | ptr => exact .junk _ _
 | pst _ e off b o cu hA h1 hr => exact .pst _ e off b o cu hA h1 hr
 | fn _ f first caps fa ca hf hc' hrf hrc =>
  unfold AV.ro1
  split
  ·rename_i h; cases h
  ·rename_i h; cases h
  ·rename_i h; cases h
  ·rename_i h; cases h
  ·rename_i h; cases h
  ·rename_i h
   cases h
   exact .fn _ f [] [] fa ca hf hc' (by simp) (by simp)
  ·exact .junk _ _
  ·rename_i h; exact absurd rfl (h f first caps)
 | mp => exact .junk _ _
 | fm _ es b me clock hG hb hs hk hv => exact .fm _ es b me clock hG hb hs hk hv
 | ws => exact .junk _ _
 | wr => exact .junk _ _
 | wp => exact .junk _ _
theorem oneCell_not_agg {v : AV} {cv : Value} (h : Rel w g v cv) (h1 : cv.oneCell' = true) : (∀ cs, v ≠ .agg cs) ∧ ∀ cs, v ≠ .tup cs := by
 constructor
 ·intro cs e; subst e; cases h; simp [Value.oneCell'] at h1
 ·intro cs e; subst e; cases h; simp [Value.oneCell'] at h1
theorem CellsRel.ro {cs : List AV} {arr : Array Value} (h : CellsRel w g cs arr) : CellsRel w g.noid (cs.map AV.ro1) arr := by
 refine ⟨by simpa using h.1, h.2.1, fun j u v hu hv => ?_⟩
 rw [List.getElem?_map] at hu
 obtain ⟨u', hu', rfl⟩ := Option.map_eq_some_iff.1 hu
 have hr := h.2.2 j u' v hu' hv
 have h1 := h.2.1 v (List.mem_iff_getElem?.2 ⟨j, by simpa using hv⟩)
 obtain ⟨ha, ht⟩ := oneCell_not_agg hr h1
 exact hr.ro1 ha ht
theorem ro_cells (v : AV) (h : v.solid = true) : v.ro.cells = v.cells.map AV.ro1 := by
 cases v with
 | agg cs => rfl
 | tup vs => simp [AV.solid] at h
 | junk => rfl
 | sl m es => cases m <;> rfl
 | fn f a b => cases a <;> cases b <;> rfl
 | _ => rfl
theorem new_slice {es : List AV} {arr : Array Value} (m : Mode) (hmode : m = .ro ∨ m = .full) (hc : CellsRel w g.noid (flat es) arr) {sz : Nat} (hsz : ∀ e ∈ es, e.cells.length = sz) (hm : es.length ≤ maxLen) (T : TypeId) :
  Rel (w.alloc (.cells arr T)) (g.stab w.heap.size arr.size) (.sl m es) (.slice (some ⟨w.heap.size, 0, none⟩) es.length es.length) := by
 refine .sl _ m es _ _ sz (fun j => arr.getD j undef) (Nat.le_refl _) hm hsz (fun _ => ⟨w.heap.size, 0, rfl, fun j hj => ?_⟩) (fun j hj => ?_) (fun j u hu => ?_) ?_
 ·have hj' : j < arr.size := by rw [hc.1]; exact hj
  refine ⟨by simp [Gh.stab]; exact hj', ?_⟩
  rw [Nat.zero_add, cell_of_row _ _ j arr T (0, 0) (heap_alloc_new w _)]
  simp [Array.getD, hj']
 ·have hj' : j < arr.size := by rw [hc.1]; exact hj
  refine hc.2.1 _ ?_
  simp [Array.getD, hj']
 ·have hj := (List.getElem?_eq_some_iff.1 hu).1
  have hj' : j < arr.size := by rw [hc.1]; exact hj
  have : arr[j]? = some (arr.getD j undef) := by simp [Array.getD, hj']
  exact (hc.2.2 j u _ hu this).le (Le.stab_new w g (.cells arr T) arr.size).noid
 ·rcases hmode with rfl | rfl
  ·trivial
  ·exact rfl
theorem aFill_seq (pl : List (Nat × Nat)) (sz : Nat) : ∀ (qs : List (Nat × AV)) (k : Nat) (done : List AV), done.length = k * sz → qs.map (·.1) = List.range' k qs.length → (∀ q ∈ qs, q.2.solid = true ∧ q.2.cells.length = sz) →
  (∀ i, k ≤ i → i < k + qs.length → pl[i]? = some (i * sz, sz)) → aFill pl (done ++ List.replicate (qs.length * sz) .junk) qs = some (done ++ flat (qs.map (·.2)))
 | [], k, done, h, hq, hv, hpl => by simp [aFill, flat]
 | (i, v) :: qs, k, done, h, hq, hv, hpl => by
  simp only [List.map_cons, List.length_cons, List.range'_succ, List.cons.injEq] at hq
  obtain ⟨rfl, hq⟩ := hq
  obtain ⟨h1, h2⟩ := hv (i, v) (by simp)
  simp only at h1 h2
  have hp := hpl i (Nat.le_refl _) (by simp)
  have ih := aFill_seq pl sz qs (i + 1) (done ++ v.cells) (by rw [List.length_append, h, h2, Nat.add_mul]; omega) hq (fun q hq => hv q (by simp [hq])) (fun j h1 h2 => hpl j (by omega) (by simp; omega))
  simp only [aFill, hp]
  have e : aSet (done ++ List.replicate ((qs.length + 1) * sz) .junk) (i * sz) v.cells = done ++ v.cells ++ List.replicate (qs.length * sz) .junk := by
   unfold aSet
   rw [List.take_left' h, ← h, ← List.drop_drop, List.drop_left, List.drop_replicate, h2]
   congr 2
   rw [Nat.add_mul]; omega
  rw [if_pos ⟨h1, h2, by simp only [List.length_append, List.length_replicate, List.length_cons, h]; rw [Nat.add_mul]; omega⟩]
  rw [show (i, v) :: qs = (i, v) :: qs from rfl, List.length_cons, e, ih]
  simp [flat, List.append_assoc]
def aLit (P : Program) (t : TypeId) (n : Nat) (qs : List (Nat × AV)) : Option AV :=
 match sleOf P t with
 | some (_, sz, _) => if qs.map (·.1) = List.range' 0 n ∧ (qs.all fun q => q.2.solid && q.2.cells.length == sz) = true ∧ n * sz ≤ 16777216 ∧ 0 < sz then some (.sl .full ((qs.map (·.2)).map AV.ro)) else none
 | none => none
theorem ro_length (v : AV) (h : v.solid = true) : v.ro.cells.length = v.cells.length := by rw [ro_cells v h, List.length_map]
theorem flat_ro (es : List AV) (h : ∀ e ∈ es, e.solid = true) : flat (es.map AV.ro) = (flat es).map AV.ro1 := by
 induction es with
 | nil => rfl
 | cons e es ih =>
  simp only [flat, List.map_cons, List.flatMap_cons, List.map_append] at *
  rw [ih (fun x hx => h x (by simp [hx])), ro_cells e (h e (by simp))]
theorem does_lit {o : Oper} {e : Env} {S : Store} {v : AV} {t : TypeId} {n : Nat} {parts : Array (Nat × Operand)} (ho : o.op = .buildSlice t n parts)
  (h : aLit P t n (parts.toList.map fun p => (p.1, ev e p.2)) = some v) (hz : ∀ e' sz ag, sleOf P t = some (e', sz, ag) → (zerOf P e').isSome = true) : Does P o e S v S :=
 does_value fun ρ w g hw hr => by
  unfold aLit at h
  split at h
  ·rename_i el sz ag hs
   split at h
   ·rename_i hcond
    obtain ⟨hq, hall, hn, hsz⟩ := hcond
    cases h
    obtain ⟨hu, hse⟩ := sleOf_spec hs
    obtain ⟨z, hzz⟩ := Option.isSome_iff_exists.1 (hz el sz ag hs)
    obtain ⟨iz, zv, hz1, hz2, hz3, _⟩ := zerOf_spec hzz
    have hqs : ∀ q ∈ parts.toList.map (fun p => (p.1, ev e p.2)), q.2.solid = true ∧ q.2.cells.length = sz := fun q hq => by
     have := (List.all_eq_true.1 hall) q hq
     simpa using this
    generalize hzero : (if n * sz = 0 then (#[] : Array Value) else zv.cells) = zero at *
    have hzc : ∀ k : Nat, Value.oneCell' (zero[k]!) = true := by
     intro k
     rw [getElem!_def]
     split
     ·rename_i x hx
      rw [← hzero] at hx
      split at hx
      ·simp at hx
      ·exact hz3 x (List.mem_iff_getElem?.2 ⟨k, by simpa using hx⟩)
     ·rfl
    have hc0 : CellsRel w g (List.replicate (n * sz) .junk) ((Array.range (n * sz)).map (zero[· % zero.size]!)) := by
     refine ⟨by simp, fun v hv => ?_, fun j u v hu hv => ?_⟩
     ·simp only [Array.toList_map, List.mem_map] at hv
      obtain ⟨k, _, rfl⟩ := hv
      exact hzc _
     ·rw [List.getElem?_replicate] at hu
      split at hu
      ·cases hu; exact .junk _ _
      ·cases hu
    have hlen : (parts.toList.map (fun p => (p.1, ev e p.2))).length = n := by
     have := congrArg List.length hq
     simpa using this
    have hfill := aFill_seq ((List.range n).map fun k => (k * sz, sz)) sz (parts.toList.map fun p => (p.1, ev e p.2)) 0 [] (by simp) (by rw [hlen]; exact hq) hqs (fun i _ hi => by
     rw [hlen] at hi
     rw [List.getElem?_map, List.getElem?_range (by omega)]
     rfl)
    rw [hlen] at hfill
    simp only [List.nil_append] at hfill
    obtain ⟨arr, h1, h2⟩ := aFill_ok (w := w) (g := g) ((List.range n).map fun k => (k * sz, sz)) (fun k => some (k * sz, sz)) (fun i p hp => by
     rw [List.getElem?_map] at hp
     obtain ⟨a, ha, rfl⟩ := Option.map_eq_some_iff.1 hp
     obtain ⟨hlt, he⟩ := List.getElem?_eq_some_iff.1 ha
     simp at he
     rw [he]) parts.toList e ρ _ _ _ hc0 (fun p hp => hr p.2 (by rw [ho]; simp only [Op.operands]; exact List.mem_map.2 ⟨p, hp, rfl⟩)) hfill
    have hsol : ∀ x ∈ (parts.toList.map fun p => (p.1, ev e p.2)).map (·.2), x.solid = true ∧ x.cells.length = sz := fun x hx => by
     obtain ⟨q, hq, rfl⟩ := List.mem_map.1 hx
     exact hqs q hq
    have h3 := h2.ro
    rw [← flat_ro _ (fun x hx => (hsol x hx).1)] at h3
    have hlen2 : (((parts.toList.map fun p => (p.1, ev e p.2)).map (·.2)).map AV.ro).length = n := by rw [List.length_map, List.length_map]; exact hlen
    have hmx : n ≤ maxLen := by
     have : n ≤ n * sz := Nat.le_mul_of_pos_right _ hsz
     unfold maxLen; omega
    obtain ⟨hw', hevo⟩ := hw.alloc_stab (.cells arr el) arr.size
    have hrel := new_slice (w := w) (g := g) .full (.inr rfl) h3 (sz := sz) (fun x hx => by
     obtain ⟨y, hy, rfl⟩ := List.mem_map.1 hx
     rw [ro_length y (hsol y hy).1]
     exact (hsol y hy).2) (by rw [hlen2]; exact hmx) el
    refine ⟨_, _, _, ?_, hw', hrel, hevo⟩
    rw [hlen2]
    have h1' : Instr.fill (fun k => some (k * sz, sz)) ((Array.range (n * sz)).map (zero[· % zero.size]!)) ((parts.map fun (i, x) => (i, ρ x)).toList) = some arr := by
     rw [← h1]
     simp
    unfold execOp
    simp only [ho, Instr.buildSlice, Sem.run_bind, run_underlying hu, Result.andThen_ok, run_sizeOf hse]
    have hnn : ¬ n * sz > 2 ^ 24 := by omega
    simp only [if_neg hnn]
    by_cases h0 : n * sz = 0
    ·rw [if_pos h0] at hzero
     subst hzero
     simp only [if_pos h0, Sem.run_bind, Sem.run_pure, Result.andThen_ok, h1', newRow, newObj, Sem.run]
     rfl
    ·rw [if_neg h0] at hzero
     subst hzero
     have hzv : (zeroValue el).run P w = .ok zv w := by simp [zeroValue, typeInfo, hz1, hz2]
     simp only [if_neg h0, Sem.run_bind, hzv, Sem.run_pure, Result.andThen_ok, h1', newRow, newObj, Sem.run]
     rfl
   ·cases h
  ·cases h
end
end Go.Proofs.YtlefikdjhnaapaaGreatDoor.Pe
namespace Go.Proofs.YtlefikdjhnaapaaGreatDoor.Pe
open Go Go.RowKit
variable [Tab]
def appOf (P : Program) (t : TypeId) : Option (TypeId × Nat × Nat) :=
 match P.underlying t with
 | some (.slice e) => match P.info? e with
  | some i => match i.zero with
   | some z => if z.cells.size = i.size ∧ 0 < i.size then some (e, i.size, i.bytes) else none
   | none => none
  | none => none
 | _ => none
theorem appOf_spec {P : Program} {t e sz by_ : Nat} (h : appOf P t = some (e, sz, by_)) : P.underlying t = some (.slice e) ∧ 0 < sz ∧ ∃ i z, P.info? e = some i ∧ i.zero = some z ∧ i.size = sz ∧ i.bytes = by_ ∧ z.cells.size = sz := by
 unfold appOf at h
 split at h
 ·rename_i e' hu
  split at h
  ·rename_i i hi
   split at h
   ·rename_i z hz
    split at h
    ·rename_i hc
     simp only [Option.some.injEq, Prod.mk.injEq] at h
     obtain ⟨rfl, rfl, rfl⟩ := h
     exact ⟨hu, hc.2, i, z, hi, hz, rfl, rfl, hc.1⟩
    ·cases h
   ·cases h
  ·cases h
 ·cases h
section
variable {P : Program} {w : World} {g : Gh} {S : Store}
theorem WF.draw (h : WF w g S) (n : Nat) : WF { w with drawn := n } g S := by
 refine ⟨h.nid, fun l o hl => ?_, h.disj, h.lt, h.tab.le (Evo.draw w g n).toLe⟩
 exact (h.obj l o hl).keep (Evo.draw w g n).toLe rfl rfl rfl rfl rfl (fun _ _ => rfl) (fun _ _ => rfl)
structure Src (P : Program) (w : World) (u : TypeId) (x : Value) (sz m : Nat) (us : List Value) : Prop where
 len : (Builtin.lenOf x).run P w = .ok m w
 ty : ∃ d, P.underlying u = some d ∧ ∀ k, d ≠ .int k
 first : (Builtin.firstCells sz m x).run P w = .ok us.toArray w
 firstd : (Builtin.firstCells sz m x).run P w.drew = .ok us.toArray w.drew
 size : us.length = m * sz
 one : ∀ v ∈ us, v.oneCell' = true
theorem app_grow {t u ty e : TypeId} {i : TypeInfo} {z : Value} (ht : P.underlying t = some (.slice e)) (hi : P.info? e = some i) (hz : i.zero = some z) {x : Value} {m : Nat} {us : List Value} (hs : Src P w u x i.size m us)
  {base : Option Addr} {n c : Nat} {olds : List Value} (holds : (Builtin.firstCells i.size n (.slice base n c)).run P w.drew = .ok olds.toArray w.drew)
  (hg : c < n + m) (h63 : n + m ≤ 9223372036854775807) (hfit : Builtin.nextslicecap (n + m) c * i.bytes ≤ 281474976710656) :
  (Builtin.append_ #[t, u] ty #[.slice base n c, x]).run P w =
   .ok (.slice (some ⟨w.heap.size, 0, none⟩) (n + m) (grownCap w (n + m) c e))
    (w.drew.alloc (.cells (olds.toArray ++ us.toArray ++ Builtin.zeroCells z.cells (grownCap w (n + m) c e - (n + m))) e)) := by
 obtain ⟨d, hu, hd⟩ := hs.ty
 have hn : ¬ (n + m ≤ c) := by omega
 have h63' : ¬ (9223372036854775807 < ((n : Int) + (m : Int))) := by omega
 have h48' : ¬ (281474976710656 < Builtin.nextslicecap (n + m) c * i.bytes) := by omega
 have hm : (match d with | .int _ => true | _ => false) = false := by cases d <;> first | rfl | exact absurd rfl (hd _)
 have hf := hs.firstd
 have hl := hs.len
 simp only [Builtin.append_, List.getElem?_toArray, List.getElem?_cons_zero, List.getElem?_cons_succ, Sem.run_bind, run_underlying ht, run_underlying hu, Result.andThen_ok, sizeOf, typeInfo, run_program, hi, Sem.run_pure, hm, Bool.false_eq_true, if_false, hl, hn, Bool.not_false, if_true, or_false, false_or]
 simp [h63', h48', Question.forced, zeroValue, typeInfo, hi, hz, holds, hf, newRow, grownCap]
 first | rfl | (congr 2; apply Array.ext'; simp [List.append_assoc])
theorem app_room {t u ty e : TypeId} {i : TypeInfo} (ht : P.underlying t = some (.slice e)) (hi : P.info? e = some i) {x : Value} {m : Nat} {us : List Value} (hs : Src P w u x i.size m us)
  {b n c : Nat} {cur : Array Value} {fr : Nat × Nat} (hb : w.heap[b]? = some (.cells cur e fr)) (hfr : fr.2 ≤ fr.1 ∨ cur.size ≤ fr.1) (hroom : n + m ≤ c) (hfit : n * i.size + us.length ≤ cur.size) :
  (Builtin.append_ #[t, u] ty #[.slice (some ⟨b, 0, none⟩) n c, x]).run P w =
   .ok (.slice (some ⟨b, 0, none⟩) (n + m) c) (w.setRow b (cur.toList.take (n * i.size) ++ us ++ cur.toList.drop (n * i.size + us.length)).toArray) := by
 obtain ⟨d, hu, hd⟩ := hs.ty
 have hm : (match d with | .int _ => true | _ => false) = false := by cases d <;> first | rfl | exact absurd rfl (hd _)
 have hst := storeCells_fr (P := P) b (n * i.size) e fr us 0 cur w hb hfr (by simpa using hfit) hs.one
 simp only [Nat.add_zero] at hst
 have hf := hs.first
 have hl := hs.len
 simp only [Builtin.append_, List.getElem?_toArray, List.getElem?_cons_zero, List.getElem?_cons_succ, Sem.run_bind, run_underlying ht, run_underlying hu, Result.andThen_ok, sizeOf, typeInfo, run_program, hi, Sem.run_pure, hm, Bool.false_eq_true, if_false, hl, hroom, Bool.not_false, if_true, hf, add_lit', Nat.zero_add, hst]
theorem app_zero {t u ty e : TypeId} {i : TypeInfo} (ht : P.underlying t = some (.slice e)) (hi : P.info? e = some i) {x : Value} (hs : Src P w u x i.size 0 [])
  {base : Option Addr} {n c : Nat} (hc : n ≤ c) : (Builtin.append_ #[t, u] ty #[.slice base n c, x]).run P w = .ok (.slice base n c) w := by
 obtain ⟨d, hu, hd⟩ := hs.ty
 have hm : (match d with | .int _ => true | _ => false) = false := by cases d <;> first | rfl | exact absurd rfl (hd _)
 have hf := hs.first
 have hl := hs.len
 have hroom : n + 0 ≤ c := hc
 simp only [Builtin.append_, List.getElem?_toArray, List.getElem?_cons_zero, List.getElem?_cons_succ, Sem.run_bind, run_underlying ht, run_underlying hu, Result.andThen_ok, sizeOf, typeInfo, run_program, hi, Sem.run_pure, hm, Bool.false_eq_true, if_false, hl, hroom, Bool.not_false, if_true, hf]
 cases base <;> simp [storeCells]
def srcOf (P : Program) (u : TypeId) (y : AV) : Option (List AV) :=
 match y with
 | .sl _ ys => match sleOf P u with
  | some _ => some ys
  | none => none
 | .st l => if kdOf P u = .str then some (l.map u8) else none
 | .ot (.slice _ 0 _) => match sleOf P u with
  | some _ => some []
  | none => none
 | _ => none
theorem src_ok {u sz : Nat} {y : AV} {cy : Value} {ys : List AV} (h : srcOf P u y = some ys) (hy : Rel w g y cy) (hall : allSz sz ys = true) :
  ∃ us : List Value, Src P w u cy sz ys.length us ∧ CellsRel w g.noid (flat ys) us.toArray := by
 have hsz := allSz_spec hall
 unfold srcOf at h
 split at h
 ·rename_i m ys'
  split at h
  ·rename_i p hs
   cases h
   obtain ⟨e', sz', ag⟩ := p
   obtain ⟨hu, hse⟩ := sleOf_spec hs
   cases hy with
   | sl _ _ _ A c sz0 cu hc hcm hsz0 hA h1 hr hm =>
    have hfl := flat_length hsz
    refine ⟨(List.range (flat ys).length).map cu, ?_, ?_⟩
    ·have hcells : ∀ (w' : World), (∀ p, w'.cell? p = w.cell? p) → (Builtin.firstCells sz ys.length (.slice A ys.length c)).run P w' = .ok ((List.range (flat ys).length).map cu).toArray w' := by
      intro w' hw'
      rcases Nat.eq_zero_or_pos ys.length with h0 | h0
      ·have : ys = [] := List.eq_nil_of_length_eq_zero h0
       subst this
       cases A with
       | none => simp [Builtin.firstCells, flat]
       | some a => simp [Builtin.firstCells, flat, loadCells, loadCellsFrom]
      ·obtain ⟨b, o, rfl, hcell⟩ := hA h0
       have := run_firstCells_some (P := P) w' sz ys.length ⟨b, o, none⟩ ys.length c ((List.range (flat ys).length).map cu) (by simp [hfl]) (fun j v hv => by
        rw [List.getElem?_map] at hv
        obtain ⟨k, hk, rfl⟩ := Option.map_eq_some_iff.1 hv
        obtain ⟨hlt, he⟩ := List.getElem?_eq_some_iff.1 hk
        simp at he hlt
        subst he
        rw [Addr.add_lit, hw', (hcell j hlt).2])
       exact this
     refine ⟨by simp [Builtin.lenOf], ⟨_, hu, by simp⟩, hcells w (fun _ => rfl), hcells w.drew (fun _ => rfl), by simp [hfl], fun v hv => ?_⟩
     simp only [List.mem_map, List.mem_range] at hv
     obtain ⟨j, hj, rfl⟩ := hv
     exact h1 j hj
    ·refine ⟨by simp, fun v hv => ?_, fun j u v hu hv => ?_⟩
     ·simp only [List.mem_map, List.mem_range] at hv
      obtain ⟨j, hj, rfl⟩ := hv
      exact h1 j hj
     ·have hj := (List.getElem?_eq_some_iff.1 hu).1
      simp [List.getElem?_range hj] at hv
      rw [← hv]
      exact hr j u hu
  ·cases h
 ·rename_i l
  split at h
  ·rename_i hk
   cases h
   cases hy
   have h1sz : sz = 1 ∨ l = [] := by
    cases l with
    | nil => exact .inr rfl
    | cons b l => exact .inl (hsz (u8 b) (by simp)).symm
   have hfirst : ∀ w' : World, (Builtin.firstCells sz (l.map u8).length (.string ⟨l.toArray⟩)).run P w' = .ok (l.map w8).toArray w' := by
    intro w'
    have := Go.Lib.run_firstCells_string (P := P) w' sz ⟨l.toArray⟩
    have hs : (⟨l.toArray⟩ : ByteArray).size = l.length := by simp [ByteArray.size]
    rw [hs] at this
    rw [List.length_map, this]
    rfl
   refine ⟨l.map w8, ⟨?_, ⟨_, kd_str hk, by simp⟩, hfirst w, hfirst w.drew, ?_, oneCell_map8 l⟩, ?_⟩
   ·have hs : (⟨l.toArray⟩ : ByteArray).size = l.length := by simp [ByteArray.size]
    simp only [Builtin.lenOf, Sem.run_pure, hs, List.length_map]
   ·rcases h1sz with rfl | rfl <;> simp
   ·rw [flat_u8]
    refine ⟨by simp, oneCell_map8 l, fun j u v hu hv => ?_⟩
    rw [List.getElem?_map] at hu
    obtain ⟨b, hb, rfl⟩ := Option.map_eq_some_iff.1 hu
    simp [hb] at hv
    rw [← hv]
    exact .it _ _ _
  ·cases h
 ·rename_i A c
  split at h
  ·rename_i p hs
   cases h
   obtain ⟨e', sz', ag⟩ := p
   obtain ⟨hu, hse⟩ := sleOf_spec hs
   cases hy
   have hcells : ∀ w' : World, (Builtin.firstCells sz 0 (.slice A 0 c)).run P w' = .ok #[] w' := by
    intro w'
    cases A <;> simp [Builtin.firstCells, loadCells, loadCellsFrom]
   exact ⟨[], ⟨by simp [Builtin.lenOf], ⟨_, hu, by simp⟩, hcells w, hcells w.drew, by simp, by simp⟩, ⟨rfl, by simp, by simp [flat]⟩⟩
  ·cases h
 ·cases h
end
end Go.Proofs.YtlefikdjhnaapaaGreatDoor.Pe
namespace Go.Proofs.YtlefikdjhnaapaaGreatDoor.Pe
open Go Go.RowKit
variable [Tab]
section
variable {P : Program} {w : World} {g : Gh} {S : Store}
theorem own_rel {w : World} {g : Gh} {l b cap sz : Nat} {es : List AV} {us : List Value} (hl : l < g.nid) (hb : g.buf l = true) (hpl : g.pl l = b) (hwm : g.wm l = es.length) (hcp : g.cap l = cap) (hG : es.length * sz ≤ g.G b)
  (hsz : ∀ x ∈ es, x.cells.length = sz) (hcap : es.length ≤ cap) (hm : cap ≤ maxLen) (hus : CellsRel w g.noid (flat es) us.toArray) (hcell : ∀ j u, us[j]? = some u → w.cell? ⟨b, j, none⟩ = some u) :
  Rel w g (.sl (.own l) es) (.slice (some ⟨b, 0, none⟩) es.length cap) := by
 have hfl := flat_length hsz
 have hul : us.length = (flat es).length := by simpa using hus.1
 refine .sl _ (.own l) es _ _ sz (fun j => us.getD j undef) hcap hm hsz (fun _ => ⟨b, 0, rfl, fun j hj => ?_⟩) (fun j hj => ?_) (fun j u hu => ?_) ⟨hl, hb, by omega, .inr (.inr ⟨by rw [hpl], hcp.symm⟩)⟩
 ·have hj' : j < us.length := by omega
  refine ⟨by omega, ?_⟩
  rw [Nat.zero_add]
  refine hcell j _ ?_
  simp [List.getD, List.getElem?_eq_getElem hj']
 ·have hj' : j < us.length := by omega
  refine hus.2.1 _ ?_
  simp only [List.getD, List.getElem?_eq_getElem hj', Option.getD_some]
  exact List.getElem_mem hj'
 ·have hj := (List.getElem?_eq_some_iff.1 hu).1
  have hj' : j < us.length := by omega
  exact hus.2.2 j u _ hu (by simp [List.getD, List.getElem?_eq_getElem hj'])
theorem new_row_cell {w : World} {cur : Array Value} {e : TypeId} {fr : Nat × Nat} {us : List Value} (ht : cur.toList.take us.length = us) (j : Nat) (u : Value) (hu : us[j]? = some u) :
  (w.alloc (.cells cur e fr)).cell? ⟨w.heap.size, j, none⟩ = some u := by
 rw [cell_of_row _ _ j cur e fr (heap_alloc_new w _)]
 rw [← ht, List.getElem?_take] at hu
 split at hu
 ·simpa using hu
 ·cases hu
theorem WF.new_buf (h : WF w g S) {es : List AV} {cur : Array Value} {e sz cap : Nat} {fr : Nat × Nat} (hsz0 : 0 < sz) (hsz : ∀ x ∈ es, x.cells.length = sz) (hcap : es.length ≤ cap) (hm : cap ≤ maxLen) (hcur : cur.size = cap * sz)
  (hfr : fr.2 ≤ fr.1 ∨ cur.size ≤ fr.1) (us : List Value) (hus : CellsRel w g.noid (flat es) us.toArray) (htake : cur.toList.take us.length = us) :
  ∃ g', WF (w.alloc (.cells cur e fr)) g' (S ++ [.buf es.length e sz]) ∧ Evo w g (w.alloc (.cells cur e fr)) g' ∧ Rel (w.alloc (.cells cur e fr)) g' (.sl (.own S.length) es) (.slice (some ⟨w.heap.size, 0, none⟩) es.length cap) := by
 have hle := Le.push_new w g (.cells cur e fr) true es.length cap (es.length * sz)
 obtain ⟨h1, h2⟩ := h.alloc_push (.cells cur e fr) true es.length cap (es.length * sz) (o := .buf es.length e sz) (by
  refine ⟨by simp [Gh.push], by simp [Gh.push], .inr ⟨by simp [Gh.push], hsz0, by simpa [Gh.push] using hcap, by simp [Gh.push], cur, fr, ?_, hfr, by simpa [Gh.push] using hcur⟩⟩
  simp only [Gh.push, if_true]
  exact heap_alloc_new w _)
 refine ⟨_, h1, h2, ?_⟩
 have hn := h.nid
 rw [← hn]
 exact own_rel (by simp [Gh.push]) (by simp [Gh.push]) (by simp [Gh.push]) (by simp [Gh.push]) (by simp [Gh.push]) (by simp [Gh.push]) hsz hcap hm (hus.le hle.noid) (fun j u hu => new_row_cell htake j u hu)
theorem WF.regrow (h : WF w g S) {l n : Nat} {es : List AV} {cur : Array Value} {e sz cap : Nat} {fr : Nat × Nat} (hS : S[l]? = some (.buf n e sz)) (hlt : n < es.length) (hsz0 : 0 < sz) (hsz : ∀ x ∈ es, x.cells.length = sz)
  (hcap : es.length ≤ cap) (hm : cap ≤ maxLen) (hcur : cur.size = cap * sz) (hfr : fr.2 ≤ fr.1 ∨ cur.size ≤ fr.1) (us : List Value) (hus : CellsRel w g.noid (flat es) us.toArray) (htake : cur.toList.take us.length = us) :
  ∃ g', WF (w.alloc (.cells cur e fr)) g' (S.set l (.buf es.length e sz)) ∧ Evo w g (w.alloc (.cells cur e fr)) g' ∧ Rel (w.alloc (.cells cur e fr)) g' (.sl (.own l) es) (.slice (some ⟨w.heap.size, 0, none⟩) es.length cap) := by
 have hlS : l < S.length := (List.getElem?_eq_some_iff.1 hS).1
 have hn := h.nid
 obtain ⟨hb, hwm, _⟩ := h.obj l _ hS
 let g' : Gh := { G := fun x => if x = w.heap.size then es.length * sz else g.G x, pl := fun k => if k = l then w.heap.size else g.pl k, own := fun k x => if k = l then x = w.heap.size else g.own k x, nid := g.nid, buf := g.buf, wm := fun k => if k = l then es.length else g.wm k, cap := fun k => if k = l then cap else g.cap k }
 have hle : Le w g (w.alloc (.cells cur e fr)) g' := by
  refine ⟨fun b o' v _ hv => ?_, fun b o' v hb hv => ?_, Nat.le_refl _, fun k hk => ⟨rfl, ?_⟩, fun b me c hg hm => by
   have hlt := (Array.getElem?_eq_some_iff.1 hm).1
   exact ⟨by show 0 < (if b = w.heap.size then _ else g.G b); rw [if_neg (show b ≠ w.heap.size from Nat.ne_of_lt hlt)]; exact hg, (heap_alloc_old w _ hlt).trans hm⟩⟩
  ·rw [World.cell?_alloc_lt w _ _ (World.block_lt_of_cell? w _ hv)]; exact hv
  ·have := World.block_lt_of_cell? w _ hv
   show o' < (if b = w.heap.size then _ else g.G b)
   rw [if_neg (show b ≠ w.heap.size from Nat.ne_of_lt this)]; exact hb
  ·by_cases hkl : k = l
   ·subst hkl; exact .inr ⟨hb, by show g.wm k < (if k = k then _ else _); rw [if_pos rfl, hwm]; exact hlt⟩
   ·exact .inl ⟨if_neg hkl, if_neg hkl, if_neg hkl⟩
 have hownl : ∀ b, g'.own l b → g.own l b ∨ (w.heap.size ≤ b ∧ b < (w.alloc (.cells cur e fr)).heap.size) := fun b hb => by
  have hb' : b = w.heap.size := by simpa [g'] using hb
  exact .inr ⟨by omega, by show b < (w.heap.push _).size; simp; omega⟩
 refine ⟨g', h.touch hlS hle rfl (fun k hk _ => ⟨if_neg hk, rfl, if_neg hk, if_neg hk, by funext x; exact if_neg hk⟩) hownl (by simp) (fun b hb _ => if_neg (Nat.ne_of_lt hb)) (fun b hb _ => heap_alloc_old w _ hb) ?_,
  ⟨hle, rfl, rfl, rfl, by simp, fun b hb _ => heap_alloc_old w _ hb, fun k b hk hb hlt' => ⟨hk, ?_⟩, fun b hb _ => if_neg (Nat.ne_of_lt hb)⟩, ?_⟩
 ·refine ⟨hb, by simp [g'], .inr ⟨by simp [g'], hsz0, by simpa [g'] using hcap, by simp [g'], cur, fr, ?_, hfr, by simpa [g'] using hcur⟩⟩
  simp only [g', if_true]
  exact heap_alloc_new w _
 ·by_cases hkl : k = l
  ·subst hkl
   have hb' : b = w.heap.size := by simpa [g'] using hb
   omega
  ·simpa [g', hkl] using hb
 ·exact own_rel (by show l < g.nid; omega) hb (by simp [g']) (by simp [g']) (by simp [g']) (by simp [g']) hsz hcap hm (hus.le hle.noid) (fun j u hu => new_row_cell htake j u hu)
theorem WF.extend (h : WF w g S) {l n : Nat} {es ys : List AV} {cur : Array Value} {e sz : Nat} {fr : Nat × Nat} (hS : S[l]? = some (.buf n e sz)) (hn : es.length = n) (h0 : 0 < ys.length) (hcap0 : g.cap l ≠ 0)
  (hb : w.heap[g.pl l]? = some (.cells cur e fr)) (hroom : n + ys.length ≤ g.cap l) (hm : g.cap l ≤ maxLen) (hsz : ∀ x ∈ es ++ ys, x.cells.length = sz) (us vs : List Value) (htake : cur.toList.take (n * sz) = us)
  (hus : CellsRel w g.noid (flat es) us.toArray) (hvs : CellsRel w g.noid (flat ys) vs.toArray) :
  let w' := w.setRow (g.pl l) (cur.toList.take (n * sz) ++ vs ++ cur.toList.drop (n * sz + vs.length)).toArray
  ∃ g', WF w' g' (S.set l (.buf (n + ys.length) e sz)) ∧ Evo w g w' g' ∧ Rel w' g' (.sl (.own l) (es ++ ys)) (.slice (some ⟨g.pl l, 0, none⟩) (n + ys.length) (g.cap l)) := by
 intro w'
 have hlS : l < S.length := (List.getElem?_eq_some_iff.1 hS).1
 have hnid := h.nid
 obtain ⟨hbuf, hwm, hrow⟩ := h.obj l _ hS
 rcases hrow with hrow | ⟨hown, hsz0, hnc, hG, cur', fr', hb', hfr', hcs'⟩
 ·exact absurd hrow hcap0
 rw [hb] at hb'
 cases hb'
 have hfes := flat_length (es := es) (sz := sz) (fun x hx => hsz x (by simp [hx]))
 have hfys := flat_length (es := ys) (sz := sz) (fun x hx => hsz x (by simp [hx]))
 have hul : us.length = n * sz := by have := hus.1; simp at this; rw [this, hfes, hn]
 have hvl : vs.length = ys.length * sz := by have := hvs.1; simp at this; rw [this, hfys]
 have hrl : (n + ys.length) * sz ≤ g.cap l * sz := Nat.mul_le_mul_right _ hroom
 have hmul : (n + ys.length) * sz = n * sz + ys.length * sz := Nat.add_mul _ _ _
 let g' : Gh := { g with G := fun x => if x = g.pl l then (n + ys.length) * sz else g.G x, wm := fun k => if k = l then n + ys.length else g.wm k }
 have hnew : w'.heap[g.pl l]? = some (.cells (cur.toList.take (n * sz) ++ vs ++ cur.toList.drop (n * sz + vs.length)).toArray e fr) := setRow_heap w (g.pl l) cur _ e fr hb
 have hcl : cur.toList.length = g.cap l * sz := by simpa using hcs'
 have hcell : ∀ j u, (us ++ vs)[j]? = some u → w'.cell? ⟨g.pl l, j, none⟩ = some u := by
  intro j u hu
  rw [cell_of_row w' _ j _ e fr hnew]
  rw [htake]
  simp only [List.getElem?_toArray]
  rw [List.getElem?_append_left (List.getElem?_eq_some_iff.1 hu).1]
  exact hu
 have hold : ∀ b o v, o < g.G b → w.cell? ⟨b, o, none⟩ = some v → w'.cell? ⟨b, o, none⟩ = some v := by
  intro b o v hbo hv
  by_cases hbl : b = g.pl l
  ·subst hbl
   refine hcell o v ?_
   have ho : o < n * sz := by omega
   rw [cell_of_row w _ o cur e fr hb] at hv
   rw [List.getElem?_append_left (by omega), ← htake, List.getElem?_take_of_lt ho]
   simpa using hv
  ·rw [World.cell?_of_block (w := w) (w' := w') (setRow_other w _ b _ hbl)]; exact hv
 have hle : Le w g w' g' := by
  refine ⟨hold, fun b o v hbo _ => ?_, Nat.le_refl _, fun k hk => ⟨rfl, ?_⟩, fun b me c hg hm => by
   have hne : b ≠ g.pl l := fun e => by rw [e, hb] at hm; cases hm
   exact ⟨by show 0 < (if b = g.pl l then _ else g.G b); rw [if_neg hne]; exact hg, (setRow_other w _ b _ hne).trans hm⟩⟩
  ·show o < (if b = g.pl l then _ else g.G b)
   split
   ·rename_i e; subst e; omega
   ·exact hbo
  ·by_cases hkl : k = l
   ·subst hkl
    refine .inr ⟨hbuf, ?_⟩
    show g.wm k < (if k = k then _ else _)
    rw [if_pos rfl, hwm]; omega
   ·exact .inl ⟨rfl, if_neg hkl, rfl⟩
 refine ⟨g', h.touch hlS hle rfl (fun k hk _ => ⟨rfl, rfl, if_neg hk, rfl, rfl⟩) (fun b hb => .inl hb) (by simp [w']) (fun b _ hno => if_neg (fun e => hno (by rw [e]; exact hown))) (fun b _ hno => setRow_other w _ b _ (fun e => hno (by rw [e]; exact hown))) ?_,
  ⟨hle, rfl, rfl, rfl, by simp [w'], fun b _ hno => setRow_other w _ b _ (fun e => hno l (by omega) (by rw [e]; exact hown)), fun _ _ hk hb _ => ⟨hk, hb⟩, fun b _ hno => if_neg (fun e => hno l (by omega) (by rw [e]; exact hown))⟩, ?_⟩
 ·refine ⟨hbuf, by simp [g'], .inr ⟨hown, hsz0, hroom, by simp [g'], _, fr, hnew, ?_, ?_⟩⟩
  ·rcases hfr' with hf | hf
   ·exact .inl hf
   ·refine .inr ?_
    simp only [List.size_toArray, List.length_append, List.length_take, List.length_drop]
    omega
  ·show _ = g.cap l * sz
   simp only [List.size_toArray, List.length_append, List.length_take, List.length_drop]
   omega
 ·have := own_rel (w := w') (g := g') (l := l) (b := g.pl l) (cap := g.cap l) (sz := sz) (es := es ++ ys) (us := us ++ vs) (by show l < g.nid; omega) hbuf rfl (by simp [g', hn]) rfl (by simp [g', hn]) hsz (by simp; omega) hm (by
   rw [flat_append]
   have h1 := hus.le hle.noid
   have h2 := hvs.le hle.noid
   refine ⟨?_, fun v hv => ?_, fun j u v hu hv => ?_⟩
   ·have := h1.1; have := h2.1; simp at *; omega
   ·simp only [List.mem_append] at hv
    rcases hv with hv | hv
    ·exact h1.2.1 v hv
    ·exact h2.2.1 v hv
   ·have hl1 : (flat es).length = us.length := by have := h1.1; simpa using this.symm
    simp only [List.getElem?_toArray] at hv
    rw [List.getElem?_append] at hu hv
    rw [hl1] at hu
    split at hu
    ·rename_i hc; rw [if_pos hc] at hv; exact h1.2.2 j u v hu (by simpa using hv)
    ·rename_i hc; rw [if_neg hc] at hv; exact h2.2.2 _ u v hu (by simpa using hv)) hcell
  rw [List.length_append, hn] at this
  exact this
theorem WF.reserve (h : WF w g S) (n : Nat) (e : TypeId) (sz : Nat) : ∃ g', WF w g' (S ++ [.buf n e sz]) ∧ Evo w g w g' ∧ g'.nid = g.nid + 1 ∧ g'.buf g.nid = true ∧ g'.wm g.nid = n := by
 let g' : Gh := { g with pl := fun k => if k = g.nid then 0 else g.pl k, own := fun k x => if k = g.nid then False else g.own k x, nid := g.nid + 1, buf := fun k => if k = g.nid then true else g.buf k, wm := fun k => if k = g.nid then n else g.wm k, cap := fun k => if k = g.nid then 0 else g.cap k }
 have hn := h.nid
 have hle : Le w g w g' := ⟨fun _ _ _ _ h => h, fun _ _ _ h _ => h, by simp [g'], fun k hk => by
  have hne : k ≠ g.nid := Nat.ne_of_lt hk
  exact ⟨if_neg hne, .inl ⟨if_neg hne, if_neg hne, if_neg hne⟩⟩, fun _ _ _ h h' => ⟨h, h'⟩⟩
 have hown : ∀ k b, k < g'.nid → g'.own k b → k < g.nid ∧ g.own k b := fun k b hk hb => by
  have hb' : if k = g.nid then False else g.own k b := hb
  split at hb'
  ·exact hb'.elim
  ·have hk' : k < g.nid + 1 := hk
   exact ⟨by omega, hb'⟩
 refine ⟨g', ⟨by simp [g', hn], fun k o hk => ?_, fun k k' b hk hk' hb hb' => ?_, fun k b hk hb => ?_, h.tab.le hle⟩, ⟨hle, rfl, rfl, rfl, Nat.le_refl _, fun _ _ _ => rfl, fun k b hk hb _ => hown k b hk hb, fun _ _ _ => rfl⟩, rfl, by simp [g'], by simp [g']⟩
 ·by_cases hkl : k < S.length
  ·rw [List.getElem?_append_left hkl] at hk
   have hne : k ≠ g.nid := by omega
   exact (h.obj k o hk).keep hle (if_neg hne) (if_neg hne) (if_neg hne) (if_neg hne) (by funext x; exact if_neg hne) (fun _ _ => rfl) (fun _ _ => rfl)
  ·rw [List.getElem?_append_right (by omega)] at hk
   have hk0 : k - S.length = 0 := by
    have := (List.getElem?_eq_some_iff.1 hk).1
    simp at this; omega
   rw [hk0] at hk
   cases hk
   have : k = g.nid := by omega
   subst this
   exact ⟨by simp [g'], by simp [g'], .inl (by simp [g'])⟩
 ·have h1 := hown k b hk hb
  have h2 := hown k' b hk' hb'
  exact h.disj k k' b h1.1 h2.1 h1.2 h2.2
 ·have h1 := hown k b hk hb
  exact h.lt k b h1.1 h1.2
theorem cells_app {w : World} {g : Gh} {us us' : List AV} {vs vs' : List Value} (h : CellsRel w g us vs.toArray) (h' : CellsRel w g us' vs'.toArray) : CellsRel w g (us ++ us') (vs ++ vs').toArray := by
 have hl : vs.length = us.length := by simpa using h.1
 refine ⟨by have := h.1; have := h'.1; simp at *; omega, fun v hv => ?_, fun j u v hu hv => ?_⟩
 ·simp only [List.mem_append] at hv
  rcases hv with hv | hv
  ·exact h.2.1 v hv
  ·exact h'.2.1 v hv
 ·simp only [List.getElem?_toArray] at hv
  rw [List.getElem?_append] at hu hv
  rw [hl] at hv
  split at hu
  ·rename_i hc; rw [if_pos hc] at hv; exact h.2.2 j u v hu (by simpa using hv)
  ·rename_i hc; rw [if_neg hc] at hv; exact h'.2.2 _ u v hu (by simpa using hv)
theorem CellsRel.ofNoid {w : World} {g : Gh} {us : List AV} {vs : Array Value} (h : CellsRel w g.noid us vs) : CellsRel w g us vs := ⟨h.1, h.2.1, fun j u v hu hv => (h.2.2 j u v hu hv).ofNoid⟩
theorem take_row {w : World} {g : Gh} {cs : List AV} {us : List Value} {cur : Array Value} (h : CellsRel w g cs us.toArray) (ht : cur.toList.take us.length = us) :
  (∀ (j : Nat) v, cur[j]? = some v → j < cs.length → v.oneCell' = true) ∧ ∀ (j : Nat) u v, cs[j]? = some u → cur[j]? = some v → Rel w g u v := by
 have hl : us.length = cs.length := by simpa using h.1
 have hat : ∀ (j : Nat) v, cur[j]? = some v → j < cs.length → us[j]? = some v := fun j v hv hj => by
  rw [← ht, List.getElem?_take_of_lt (by omega)]
  simpa using hv
 exact ⟨fun j v hv hj => h.2.1 v (List.mem_iff_getElem?.2 ⟨j, hat j v hv hj⟩), fun j u v hu hv => h.2.2 j u v hu (by simpa using hat j v hv (List.getElem?_eq_some_iff.1 hu).1)⟩
theorem WF.new_row (h : WF w g S) {cs : List AV} {n : Nat} {cur : Array Value} {e sz cap : Nat} {fr : Nat × Nat} (hsz0 : 0 < sz) (hn : cs.length = n * sz) (hcap : n ≤ cap) (hm : cap ≤ maxLen) (hcur : cur.size = cap * sz)
  (hfr : fr.2 ≤ fr.1) (us : List Value) (hus : CellsRel w g cs us.toArray) (htake : cur.toList.take us.length = us) :
  ∃ g', WF (w.alloc (.cells cur e fr)) g' (S ++ [.row cs e sz]) ∧ Evo w g (w.alloc (.cells cur e fr)) g' ∧ Rel (w.alloc (.cells cur e fr)) g' (.wr S.length n none) (.slice (some ⟨w.heap.size, 0, none⟩) n cap) := by
 have hle := Le.push_new w g (.cells cur e fr) true n cap 0
 obtain ⟨t1, t2⟩ := take_row hus htake
 have hul : us.length = cs.length := by simpa using hus.1
 have hcl : cs.length ≤ cur.size := by
  have := congrArg List.length htake
  simp at this; omega
 obtain ⟨h1, h2⟩ := h.alloc_push (.cells cur e fr) true n cap 0 (o := .row cs e sz) (by
  refine ⟨by simp [Gh.push], ⟨hsz0, by simpa [Gh.push] using hn⟩, .inr ⟨by simp [Gh.push], by simp [Gh.push], cur, fr, ?_, hfr, by simpa [Gh.push] using hcur, hcl, t1, fun j u v hu hv => (t2 j u v hu hv).le hle⟩⟩
  simp only [Gh.push, if_true]
  exact heap_alloc_new w _)
 refine ⟨_, h1, h2, ?_⟩
 have hn := h.nid
 rw [← hn]
 exact .wr _ _ n cap _ (by simp [Gh.push]) (by simp [Gh.push]) (by simp [Gh.push]) hcap hm (fun _ => ⟨_, _, rfl⟩) (.inr ⟨by simp [Gh.push], fun _ => by simp [Gh.push]⟩)
theorem WF.reserve_row (h : WF w g S) (e : TypeId) {sz : Nat} (hsz0 : 0 < sz) : ∃ g', WF w g' (S ++ [.row [] e sz]) ∧ Evo w g w g' ∧ ∀ A, Rel w g' (.wr S.length 0 none) (.slice A 0 0) := by
 let g' : Gh := { g with pl := fun k => if k = g.nid then 0 else g.pl k, own := fun k x => if k = g.nid then False else g.own k x, nid := g.nid + 1, buf := fun k => if k = g.nid then true else g.buf k, wm := fun k => if k = g.nid then 0 else g.wm k, cap := fun k => if k = g.nid then 0 else g.cap k }
 have hn := h.nid
 have hle : Le w g w g' := ⟨fun _ _ _ _ h => h, fun _ _ _ h _ => h, by simp [g'], fun k hk => by
  have hne : k ≠ g.nid := Nat.ne_of_lt hk
  exact ⟨if_neg hne, .inl ⟨if_neg hne, if_neg hne, if_neg hne⟩⟩, fun _ _ _ h h' => ⟨h, h'⟩⟩
 have hown : ∀ k b, k < g'.nid → g'.own k b → k < g.nid ∧ g.own k b := fun k b hk hb => by
  have hb' : if k = g.nid then False else g.own k b := hb
  split at hb'
  ·exact hb'.elim
  ·have hk' : k < g.nid + 1 := hk
   exact ⟨by omega, hb'⟩
 refine ⟨g', ⟨by simp [g', hn], fun k o hk => ?_, fun k k' b hk hk' hb hb' => ?_, fun k b hk hb => ?_, h.tab.le hle⟩, ⟨hle, rfl, rfl, rfl, Nat.le_refl _, fun _ _ _ => rfl, fun k b hk hb _ => hown k b hk hb, fun _ _ _ => rfl⟩, fun A => ?_⟩
 ·by_cases hkl : k < S.length
  ·rw [List.getElem?_append_left hkl] at hk
   have hne : k ≠ g.nid := by omega
   exact (h.obj k o hk).keep hle (if_neg hne) (if_neg hne) (if_neg hne) (if_neg hne) (by funext x; exact if_neg hne) (fun _ _ => rfl) (fun _ _ => rfl)
  ·rw [List.getElem?_append_right (by omega)] at hk
   have hk0 : k - S.length = 0 := by
    have := (List.getElem?_eq_some_iff.1 hk).1
    simp at this; omega
   rw [hk0] at hk
   cases hk
   have : k = g.nid := by omega
   subst this
   exact ⟨by simp [g'], ⟨hsz0, by simp [g']⟩, .inl ⟨by simp [g'], rfl⟩⟩
 ·have h1 := hown k b hk hb
  have h2 := hown k' b hk' hb'
  exact h.disj k k' b h1.1 h2.1 h1.2 h2.2
 ·have h1 := hown k b hk hb
  exact h.lt k b h1.1 h1.2
 ·rw [← hn]
  exact .wr _ _ 0 0 A (by simp [g']) (by simp [g']) (by simp [g']) (Nat.le_refl _) (Nat.zero_le _) (fun h => absurd h (Nat.lt_irrefl 0)) (.inr ⟨by simp [g'], fun h => absurd h (Nat.lt_irrefl 0)⟩)
theorem WF.regrow_row (h : WF w g S) {l n : Nat} {cs cs' : List AV} {cur : Array Value} {e sz cap : Nat} {fr : Nat × Nat} (hS : S[l]? = some (.row cs e sz)) (hlt : g.wm l < n) (hn : cs'.length = n * sz)
  (hcap : n ≤ cap) (hm : cap ≤ maxLen) (hcur : cur.size = cap * sz) (hfr : fr.2 ≤ fr.1) (us : List Value) (hus : CellsRel w g cs' us.toArray) (htake : cur.toList.take us.length = us) :
  ∃ g', WF (w.alloc (.cells cur e fr)) g' (S.set l (.row cs' e sz)) ∧ Evo w g (w.alloc (.cells cur e fr)) g' ∧ Rel (w.alloc (.cells cur e fr)) g' (.wr l n none) (.slice (some ⟨w.heap.size, 0, none⟩) n cap) := by
 have hlS : l < S.length := (List.getElem?_eq_some_iff.1 hS).1
 have hnid := h.nid
 obtain ⟨hb, ⟨hsz0, _⟩, _⟩ := h.obj l _ hS
 obtain ⟨t1, t2⟩ := take_row hus htake
 have hul : us.length = cs'.length := by simpa using hus.1
 have hcl : cs'.length ≤ cur.size := by
  have := congrArg List.length htake
  simp at this; omega
 let g' : Gh := { G := fun x => if x = w.heap.size then 0 else g.G x, pl := fun k => if k = l then w.heap.size else g.pl k, own := fun k x => if k = l then x = w.heap.size else g.own k x, nid := g.nid, buf := g.buf, wm := fun k => if k = l then n else g.wm k, cap := fun k => if k = l then cap else g.cap k }
 have hle : Le w g (w.alloc (.cells cur e fr)) g' := by
  refine ⟨fun b o' v _ hv => ?_, fun b o' v hb hv => ?_, Nat.le_refl _, fun k hk => ⟨rfl, ?_⟩, fun b me c hg hm => by
   have hlt := (Array.getElem?_eq_some_iff.1 hm).1
   exact ⟨by show 0 < (if b = w.heap.size then _ else g.G b); rw [if_neg (show b ≠ w.heap.size from Nat.ne_of_lt hlt)]; exact hg, (heap_alloc_old w _ hlt).trans hm⟩⟩
  ·have := World.block_lt_of_cell? w _ hv
   rw [World.cell?_alloc_lt w _ _ this]; exact hv
  ·have := World.block_lt_of_cell? w _ hv
   show o' < (if b = w.heap.size then _ else g.G b)
   rw [if_neg (show b ≠ w.heap.size from Nat.ne_of_lt this)]; exact hb
  ·by_cases hkl : k = l
   ·subst hkl; exact .inr ⟨hb, by show g.wm k < (if k = k then _ else _); rw [if_pos rfl]; exact hlt⟩
   ·exact .inl ⟨if_neg hkl, if_neg hkl, if_neg hkl⟩
 have hownl : ∀ b, g'.own l b → g.own l b ∨ (w.heap.size ≤ b ∧ b < (w.alloc (.cells cur e fr)).heap.size) := fun b hb => by
  have hb' : b = w.heap.size := by simpa [g'] using hb
  exact .inr ⟨by omega, by show b < (w.heap.push _).size; simp; omega⟩
 refine ⟨g', h.touch hlS hle rfl (fun k hk _ => ⟨if_neg hk, rfl, if_neg hk, if_neg hk, by funext x; exact if_neg hk⟩) hownl (by simp) (fun b hb _ => if_neg (Nat.ne_of_lt hb)) (fun b hb _ => heap_alloc_old w _ hb) ?_,
  ⟨hle, rfl, rfl, rfl, by simp, fun b hb _ => heap_alloc_old w _ hb, fun k b hk hb hlt' => ⟨hk, ?_⟩, fun b hb _ => if_neg (Nat.ne_of_lt hb)⟩, ?_⟩
 ·refine ⟨hb, ⟨hsz0, by simpa [g'] using hn⟩, .inr ⟨by simp [g'], by simp [g'], cur, fr, ?_, hfr, by simpa [g'] using hcur, hcl, t1, fun j u v hu hv => (t2 j u v hu hv).le hle⟩⟩
  simp only [g', if_true]
  exact heap_alloc_new w _
 ·by_cases hkl : k = l
  ·subst hkl
   have hb' : b = w.heap.size := by simpa [g'] using hb
   omega
  ·simpa [g', hkl] using hb
 ·exact .wr _ _ n cap _ (by show l < g.nid; omega) hb (by simp [g']) hcap hm (fun _ => ⟨_, _, rfl⟩) (.inr ⟨by simp [g'], fun _ => by simp [g']⟩)
theorem WF.extend_row (h : WF w g S) {l n m : Nat} {cs ds : List AV} {cur : Array Value} {e sz : Nat} {fr : Nat × Nat} (hS : S[l]? = some (.row cs e sz)) (hn : n = g.wm l) (h0 : 0 < m) (hcap0 : g.cap l ≠ 0)
  (hb : w.heap[g.pl l]? = some (.cells cur e fr)) (hroom : n + m ≤ g.cap l) (hm : g.cap l ≤ maxLen) (hds : ds.length = m * sz) (vs : List Value) (hvs : CellsRel w g ds vs.toArray) :
  let w' := w.setRow (g.pl l) (cur.toList.take (n * sz) ++ vs ++ cur.toList.drop (n * sz + vs.length)).toArray
  ∃ g', WF w' g' (S.set l (.row (cs ++ ds) e sz)) ∧ Evo w g w' g' ∧ Rel w' g' (.wr l (n + m) none) (.slice (some ⟨g.pl l, 0, none⟩) (n + m) (g.cap l)) := by
 intro w'
 have hlS : l < S.length := (List.getElem?_eq_some_iff.1 hS).1
 have hnid := h.nid
 obtain ⟨hbuf, ⟨hsz0, hwm⟩, hrow⟩ := h.obj l _ hS
 rcases hrow with ⟨hrow, _⟩ | ⟨hown, hG, cur', fr', hb', hfr', hcs', hcl, h9, h10⟩
 ·exact absurd hrow hcap0
 rw [hb] at hb'
 cases hb'
 have hvl : vs.length = m * sz := by have := hvs.1; simp at this; rw [this, hds]
 have hrl : (n + m) * sz ≤ g.cap l * sz := Nat.mul_le_mul_right _ hroom
 have hmul : (n + m) * sz = n * sz + m * sz := Nat.add_mul _ _ _
 have hcsl : cs.length = n * sz := by rw [hwm, hn]
 let g' : Gh := { g with wm := fun k => if k = l then n + m else g.wm k }
 have hnew : w'.heap[g.pl l]? = some (.cells (cur.toList.take (n * sz) ++ vs ++ cur.toList.drop (n * sz + vs.length)).toArray e fr) := setRow_heap w (g.pl l) cur _ e fr hb
 have hcl' : cur.toList.length = g.cap l * sz := by simpa using hcs'
 have hle0 := Le.setRow (w := w) hG (cur.toList.take (n * sz) ++ vs ++ cur.toList.drop (n * sz + vs.length)).toArray
 have hle1 : Le w' g w' g' := ⟨fun _ _ _ _ h => h, fun _ _ _ h _ => h, Nat.le_refl _, fun k hk => ⟨rfl, by
  by_cases hkl : k = l
  ·subst hkl
   refine .inr ⟨hbuf, ?_⟩
   show g.wm k < (if k = k then _ else _)
   rw [if_pos rfl]; omega
  ·exact .inl ⟨rfl, if_neg hkl, rfl⟩⟩, fun _ _ _ h h' => ⟨h, h'⟩⟩
 have hle : Le w g w' g' := hle0.trans hle1
 have hat : ∀ (j : Nat) v, (cur.toList.take (n * sz) ++ vs ++ cur.toList.drop (n * sz + vs.length)).toArray[j]? = some v → j < (cs ++ ds).length → (j < cs.length ∧ cur[j]? = some v) ∨ (cs.length ≤ j ∧ vs[j - cs.length]? = some v) := by
  intro j v hv hj
  rw [List.length_append] at hj
  simp only [List.getElem?_toArray] at hv
  rw [List.append_assoc] at hv
  have hlt : (cur.toList.take (n * sz)).length = n * sz := by rw [List.length_take]; omega
  by_cases h1 : j < n * sz
  ·rw [List.getElem?_append_left (by omega), List.getElem?_take_of_lt h1] at hv
   exact .inl ⟨by omega, by simpa using hv⟩
  ·rw [List.getElem?_append_right (by omega), hlt, List.getElem?_append_left (by omega)] at hv
   exact .inr ⟨by omega, by rw [hcsl]; exact hv⟩
 refine ⟨g', h.touch hlS hle rfl (fun k hk _ => ⟨rfl, rfl, if_neg hk, rfl, rfl⟩) (fun b hb => .inl hb) (by simp [w']) (fun b _ _ => rfl) (fun b _ hno => setRow_other w _ b _ (fun e => hno (by rw [e]; exact hown))) ?_,
  ⟨hle, rfl, rfl, rfl, by simp [w'], fun b _ hno => setRow_other w _ b _ (fun e => hno l (by omega) (by rw [e]; exact hown)), fun _ _ hk hb _ => ⟨hk, hb⟩, fun b _ _ => rfl⟩, ?_⟩
 ·refine ⟨hbuf, ⟨hsz0, ?_⟩, .inr ⟨hown, hG, _, fr, hnew, hfr', ?_, ?_, fun j v hv hj => ?_, fun j u v hu hv => ?_⟩⟩
  ·rw [List.length_append]
   show _ = (if l = l then n + m else g.wm l) * sz
   rw [if_pos rfl]; omega
  ·show _ = g.cap l * sz
   simp only [List.size_toArray, List.length_append, List.length_take, List.length_drop]
   omega
  ·simp only [List.size_toArray, List.length_append, List.length_take, List.length_drop]
   omega
  ·rcases hat j v hv hj with ⟨h1, h2⟩ | ⟨h1, h2⟩
   ·exact h9 j v h2 h1
   ·exact hvs.2.1 v (List.mem_iff_getElem?.2 ⟨_, h2⟩)
  ·rcases hat j v hv (List.getElem?_eq_some_iff.1 hu).1 with ⟨h1, h2⟩ | ⟨h1, h2⟩
   ·rw [List.getElem?_append_left h1] at hu
    exact (h10 j u v hu h2).le hle
   ·rw [List.getElem?_append_right h1] at hu
    exact (hvs.2.2 _ u v hu (by simpa using h2)).le hle
 ·exact .wr _ _ (n + m) _ _ (by show l < g.nid; omega) hbuf (by simp [g']) hroom hm (fun _ => ⟨_, _, rfl⟩) (.inr ⟨rfl, fun _ => rfl⟩)
end
end Go.Proofs.YtlefikdjhnaapaaGreatDoor.Pe
namespace Go.Proofs.YtlefikdjhnaapaaGreatDoor.Pe
open Go Go.RowKit
variable [Tab]
def fits (n by_ : Nat) : Bool := decide (n * by_ ≤ 140737488355328) && decide (n ≤ 140737488355328)
def aApp (P : Program) (t u : TypeId) (S : Store) (x y : AV) : Option (AV × Store) :=
 match appOf P t, srcOf P u y, x with
 | some (e, sz, by_), some ys, .sl (.own l) es => match S[l]? with
  | some (.buf n e' sz') => if n = es.length ∧ e' = e ∧ sz' = sz ∧ allSz sz es = true ∧ allSz sz ys = true ∧ fits (es.length + ys.length) by_ = true then
    some (.sl (.own l) (es ++ ys), S.set l (.buf (es.length + ys.length) e sz)) else none
  | _ => none
 | some (e, sz, by_), some ys, .sl .full es => if allSz sz es = true ∧ allSz sz ys = true ∧ fits (es.length + ys.length) by_ = true then
   some (.sl (.own S.length) (es ++ ys), S ++ [.buf (es.length + ys.length) e sz]) else none
 | some (e, sz, by_), some ys, .wr l n none => match S[l]? with
  | some (.row cs e' sz') => if cs.length = n * sz ∧ e' = e ∧ sz' = sz ∧ allSz sz ys = true ∧ fits (n + ys.length) by_ = true then
    some (.wr l (n + ys.length) none, S.set l (.row (cs ++ flat ys) e sz)) else none
  | _ => none
 | _, _, _ => none
def aAppW (P : Program) (t u : TypeId) (S : Store) (x y : AV) : Option (AV × SObj) :=
 match appOf P t, srcOf P u y, x with
 | some (e, sz, by_), some ys, .sl .full es => if allSz sz es = true ∧ allSz sz ys = true ∧ fits (es.length + ys.length) by_ = true ∧ es = [] then
   some (.wr S.length ys.length none, .row (flat ys) e sz) else none
 | _, _, _ => none
section
variable {P : Program} {w : World} {g : Gh} {S : Store}
theorem fits_spec {n b : Nat} (h : fits n b = true) : n * b ≤ 140737488355328 ∧ n ≤ 140737488355328 := by simpa [fits] using h
theorem sl_cells {m : Mode} {es : List AV} {A : Option Addr} {c sz : Nat} (h : Rel w g (.sl m es) (.slice A es.length c)) (hsz : ∀ e ∈ es, e.cells.length = sz) :
  ∃ us : List Value, us.length = es.length * sz ∧ CellsRel w g.noid (flat es) us.toArray ∧ (∀ w' : World, (∀ p, w'.cell? p = w.cell? p) → (Builtin.firstCells sz es.length (.slice A es.length c)).run P w' = .ok us.toArray w') ∧
   ∀ b, A = some ⟨b, 0, none⟩ → ∀ (j : Nat) u, us[j]? = some u → w.cell? ⟨b, j, none⟩ = some u := by
 cases h with
 | sl _ _ _ _ _ sz0 cu hc hcm hsz0 hA h1 hr hm =>
  have hfl := flat_length hsz
  refine ⟨(List.range (flat es).length).map cu, by simp [hfl], ⟨by simp, fun v hv => ?_, fun j u v hu hv => ?_⟩, fun w' hw' => ?_, fun b hb j u hu => ?_⟩
  ·simp only [List.mem_map, List.mem_range] at hv
   obtain ⟨j, hj, rfl⟩ := hv
   exact h1 j hj
  ·have hj := (List.getElem?_eq_some_iff.1 hu).1
   simp [List.getElem?_range hj] at hv
   rw [← hv]
   exact hr j u hu
  ·rcases Nat.eq_zero_or_pos es.length with h0 | h0
   ·have : es = [] := List.eq_nil_of_length_eq_zero h0
    subst this
    cases A with
    | none => simp [Builtin.firstCells, flat]
    | some a => simp [Builtin.firstCells, flat, loadCells, loadCellsFrom]
   ·obtain ⟨b, o, rfl, hcell⟩ := hA h0
    exact run_firstCells_some (P := P) w' sz es.length ⟨b, o, none⟩ es.length c ((List.range (flat es).length).map cu) (by simp [hfl]) (fun j v hv => by
     rw [List.getElem?_map] at hv
     obtain ⟨k, hk, rfl⟩ := Option.map_eq_some_iff.1 hv
     obtain ⟨hlt, he⟩ := List.getElem?_eq_some_iff.1 hk
     simp at he hlt
     subst he
     rw [Addr.add_lit, hw', (hcell j hlt).2])
  ·rw [List.getElem?_map] at hu
   obtain ⟨k, hk, rfl⟩ := Option.map_eq_some_iff.1 hu
   obtain ⟨hlt, he⟩ := List.getElem?_eq_some_iff.1 hk
   simp at he hlt
   subst he
   have h0 : 0 < es.length := by
    rcases Nat.eq_zero_or_pos es.length with h0 | h0
    ·rw [hfl, h0] at hlt; omega
    ·exact h0
   obtain ⟨b', o, hb', hcell⟩ := hA h0
   rw [hb] at hb'
   cases hb'
   have := (hcell j hlt).2
   rw [Nat.zero_add] at this
   exact this
theorem zeroCells_sz (z : Array Value) (n sz : Nat) (h : z.size = sz) : (Builtin.zeroCells z n).size = n * sz := by rw [size_zeroCells, h]
theorem set_same {S : Store} {l : Nat} {o : SObj} (h : S[l]? = some o) : S.set l o = S := by
 refine List.ext_getElem? fun k => ?_
 by_cases hk : k = l
 ·subst hk
  rw [List.getElem?_set_self (List.getElem?_eq_some_iff.1 h).1, h]
 ·rw [List.getElem?_set_ne (fun e => hk e.symm)]
theorem aApp_row {t u ty : TypeId} {e sz by_ l n : Nat} {ys cs : List AV} {y : AV} {cx cy : Value} (ht : appOf P t = some (e, sz, by_)) (hs : srcOf P u y = some ys) (hS : S[l]? = some (.row cs e sz)) (hn : cs.length = n * sz) (hall' : allSz sz ys = true) (hfit : fits (n + ys.length) by_ = true)
  (hw : WF w g S) (hx : Rel w g (.wr l n none) cx) (hy : Rel w g y cy) :
  ∃ cv w' g', (Builtin.append_ #[t, u] ty #[cx, cy]).run P w = .ok cv w' ∧ WF w' g' (S.set l (.row (cs ++ flat ys) e sz)) ∧ Rel w' g' (.wr l (n + ys.length) none) cv ∧ Evo w g w' g' := by
 obtain ⟨hut, hsz0, i, z, hi, hz, rfl, rfl, hzs⟩ := appOf_spec ht
 obtain ⟨hf1, hf2⟩ := fits_spec hfit
 have hsz2 := allSz_spec hall'
 obtain ⟨vs, hsrc, hvs⟩ := src_ok hs hy hall'
 have hvs := hvs.ofNoid
 have hfy := flat_length hsz2
 have hx' := hx
 obtain ⟨hbuf, ⟨_, hwm⟩, hrow⟩ := hw.obj l _ hS
 have hnw : n = g.wm l := Nat.eq_of_mul_eq_mul_right hsz0 (by omega)
 cases hx with
 | wr _ _ _ c A hl hb hwn hc hcm h0 hA =>
  obtain ⟨rfl, hA⟩ : c = g.cap l ∧ (0 < c → A = some ⟨g.pl l, 0, none⟩) := by
   rcases hA with hA | hA
   ·omega
   ·exact hA
  rcases Nat.eq_zero_or_pos ys.length with h00 | h00
  ·have hy0 : ys = [] := List.eq_nil_of_length_eq_zero h00
   subst hy0
   have hv0 : vs = [] := by
    have := hsrc.size
    simp at this
    exact this
   subst hv0
   refine ⟨_, w, g, app_zero hut hi hsrc hc, ?_, by simpa using hx', Evo.refl w g⟩
   have : cs ++ flat [] = cs := by simp [flat]
   rw [this, set_same hS]
   exact hw
  ·by_cases hroom : n + ys.length ≤ g.cap l
   ·have hA := hA (by omega)
    subst hA
    rcases hrow with ⟨hrow, _⟩ | ⟨hown, hG, cur, fr, hb', hfr, hcs, hcl, h9, h10⟩
    ·omega
    ·have hle : (n + ys.length) * i.size ≤ g.cap l * i.size := Nat.mul_le_mul_right _ hroom
     rw [Nat.add_mul] at hle
     obtain ⟨g', h5, h6, h7⟩ := hw.extend_row (ds := flat ys) hS hnw h00 (by omega) hb' hroom hcm hfy vs hvs
     refine ⟨_, _, g', app_room hut hi hsrc hb' (.inl hfr) hroom ?_, h5, h7, h6⟩
     rw [hsrc.size]; omega
   ·obtain ⟨olds, ho1, ho2, ho3⟩ : ∃ olds : List Value, (∀ w' : World, (∀ p, w'.cell? p = w.cell? p) → (Builtin.firstCells i.size n (.slice A n (g.cap l))).run P w' = .ok olds.toArray w') ∧ CellsRel w g cs olds.toArray ∧ olds.length = n * i.size := by
     rcases Nat.eq_zero_or_pos n with hn0 | hn0
     ·subst hn0
      refine ⟨[], fun w' _ => ?_, ?_, by simp⟩
      ·cases A with
       | none => simp [Builtin.firstCells]
       | some a => simp [Builtin.firstCells, loadCells, loadCellsFrom]
      ·have : cs = [] := List.eq_nil_of_length_eq_zero (by omega)
       subst this
       exact ⟨rfl, by simp, by simp⟩
     ·have hA := hA (by omega)
      subst hA
      rcases hrow with ⟨hrow, _⟩ | ⟨hown, hG, cur, fr, hb', hfr, hcs, hcl, h9, h10⟩
      ·omega
      ·have hlen : (cur.toList.take (n * i.size)).length = n * i.size := by rw [List.length_take]; simp; omega
       have hget : ∀ (j : Nat) v, (cur.toList.take (n * i.size))[j]? = some v → j < cs.length ∧ cur[j]? = some v := fun j v hv => by
        have hj := (List.getElem?_eq_some_iff.1 hv).1
        rw [List.getElem?_take_of_lt (by omega)] at hv
        exact ⟨by omega, by simpa using hv⟩
       refine ⟨cur.toList.take (n * i.size), fun w' hw' => ?_, ⟨by simpa [hn] using hlen, fun v hv => ?_, fun j u v hu hv => ?_⟩, hlen⟩
       ·exact run_firstCells_some (P := P) w' i.size n ⟨g.pl l, 0, none⟩ n (g.cap l) (cur.toList.take (n * i.size)) hlen (fun j v hv => by
         rw [Addr.add_lit, hw', Nat.zero_add, cell_of_row w _ j cur e fr hb']
         exact (hget j v hv).2)
       ·obtain ⟨j, hj⟩ := List.mem_iff_getElem?.1 hv
        have := hget j v (by simpa using hj)
        exact h9 j v this.2 this.1
       ·exact h10 j u v hu (hget j v (by simpa using hv)).2
    have hrun := app_grow (ty := ty) hut hi hz hsrc (ho1 w.drew (fun _ => rfl)) (by omega) (by omega) (growslice_fits (by omega) hf1)
    have hge := grownCap_ge w (n + ys.length) (g.cap l) e
    have hcm' : grownCap w (n + ys.length) (g.cap l) e ≤ maxLen := grownCap_le_maxLen w _ (g.cap l) e (by simp only [maxLen]; omega)
    have hvl := hsrc.size
    obtain ⟨g', h5, h6, h7⟩ := (hw.draw (w.drawn + 1)).regrow_row (n := n + ys.length) (cs' := cs ++ flat ys) (cur := olds.toArray ++ vs.toArray ++ Builtin.zeroCells z.cells (grownCap w (n + ys.length) (g.cap l) e - (n + ys.length))) (cap := grownCap w (n + ys.length) (g.cap l) e) (fr := (0, 0)) hS (by omega) (by rw [List.length_append, hn, hfy, Nat.add_mul]) hge hcm' (by
      simp only [Array.size_append, List.size_toArray, zeroCells_sz _ _ _ hzs, ho3, hvl, ← Nat.add_mul]
      congr 1
      omega) (by simp) (olds ++ vs) ((cells_app ho2 hvs).le (Evo.draw w g _).toLe) (by
      simp only [Array.toList_append, List.append_assoc]
      rw [← List.append_assoc, List.take_left])
    exact ⟨_, _, g', hrun, h5, h7, (Evo.draw w g _).trans h6⟩
theorem aAppW_ok {t u ty : TypeId} {x y v : AV} {z : SObj} {cx cy : Value} (h : aAppW P t u S x y = some (v, z)) (hw : WF w g S) (hx : Rel w g x cx) (hy : Rel w g y cy) :
  ∃ cv w' g', (Builtin.append_ #[t, u] ty #[cx, cy]).run P w = .ok cv w' ∧ WF w' g' (S ++ [z]) ∧ Rel w' g' v cv ∧ Evo w g w' g' := by
 unfold aAppW at h
 split at h
 ·rename_i e sz by_ ys es ht hs
  obtain ⟨hut, hsz0, i, z, hi, hz, rfl, rfl, hzs⟩ := appOf_spec ht
  split at h
  ·rename_i hcond
   obtain ⟨hall, hall', hfit, rfl⟩ := hcond
   cases h
   obtain ⟨hf1, hf2⟩ := fits_spec hfit
   have hsz2 := allSz_spec hall'
   obtain ⟨vs, hsrc, hvs⟩ := src_ok hs hy hall'
   have hvs := hvs.ofNoid
   have hfy := flat_length hsz2
   cases hx with
   | sl _ _ _ A c sz0 cu hc hcm hsz hA h1 hr hm =>
    have hcn : c = 0 := hm
    subst hcn
    rcases Nat.eq_zero_or_pos ys.length with h0 | h0
    ·have hy0 : ys = [] := List.eq_nil_of_length_eq_zero h0
     subst hy0
     have hv0 : vs = [] := by
      have := hsrc.size
      simp at this
      exact this
     subst hv0
     obtain ⟨g', h5, h6, h7⟩ := hw.reserve_row e hsz0
     exact ⟨_, w, g', app_zero hut hi hsrc (Nat.le_refl _), h5, h7 _, h6⟩
    ·simp only [List.length_nil, Nat.zero_add] at hf1 hf2
     have hrun := app_grow (ty := ty) hut hi hz hsrc (base := A) (n := 0) (c := 0) (olds := []) (by
      cases A with
      | none => simp [Builtin.firstCells]
      | some a => simp [Builtin.firstCells, loadCells, loadCellsFrom]) (by omega) (by omega) (growslice_fits (by omega) (by rw [Nat.zero_add]; exact hf1))
     rw [Nat.zero_add] at hrun
     have hge := grownCap_ge w ys.length 0 e
     have hcm' : grownCap w ys.length 0 e ≤ maxLen := grownCap_le_maxLen w _ 0 e (by simp only [maxLen]; omega)
     have hvl := hsrc.size
     obtain ⟨g', h5, h6, h7⟩ := (hw.draw (w.drawn + 1)).new_row (n := ys.length) (cs := flat ys) (cur := ([] : List Value).toArray ++ vs.toArray ++ Builtin.zeroCells z.cells (grownCap w ys.length 0 e - ys.length)) (e := e) (cap := grownCap w ys.length 0 e) (fr := (0, 0)) hsz0 hfy hge hcm' (by
       simp only [Array.size_append, List.size_toArray, List.length_nil, zeroCells_sz _ _ _ hzs, hvl, Nat.zero_add, ← Nat.add_mul]
       congr 1
       omega) (by simp) vs (hvs.le (Evo.draw w g _).toLe) (by
       simp only [Array.toList_append, List.append_assoc, List.nil_append]
       rw [List.take_left])
     exact ⟨_, _, g', hrun, h5, h7, (Evo.draw w g _).trans h6⟩
  ·cases h
 ·cases h
theorem aApp_ok {t u ty : TypeId} {x y v : AV} {S' : Store} {cx cy : Value} (h : aApp P t u S x y = some (v, S')) (hw : WF w g S) (hx : Rel w g x cx) (hy : Rel w g y cy) :
  ∃ cv w' g', (Builtin.append_ #[t, u] ty #[cx, cy]).run P w = .ok cv w' ∧ WF w' g' S' ∧ Rel w' g' v cv ∧ Evo w g w' g' := by
 unfold aApp at h
 split at h
 ·rename_i e sz by_ ys l es ht hs
  obtain ⟨hut, hsz0, i, z, hi, hz, rfl, rfl, hzs⟩ := appOf_spec ht
  split at h
  ·rename_i n e' sz' hS
   split at h
   ·rename_i hcond
    obtain ⟨rfl, rfl, rfl, hall, hall', hfit⟩ := hcond
    cases h
    obtain ⟨hf1, hf2⟩ := fits_spec hfit
    have hsz1 := allSz_spec hall
    have hsz2 := allSz_spec hall'
    obtain ⟨vs, hsrc, hvs⟩ := src_ok hs hy hall'
    have hx' := hx
    cases hx with
    | sl _ _ _ A c sz0 cu hc hcm hsz hA h1 hr hm =>
     obtain ⟨us, hus1, hus2, hus3, hus4⟩ := sl_cells (P := P) hx' hsz1
     have hsz12 : ∀ e ∈ es ++ ys, e.cells.length = i.size := fun e he => by
      rcases List.mem_append.1 he with he | he
      ·exact hsz1 e he
      ·exact hsz2 e he
     rcases Nat.eq_zero_or_pos ys.length with h0 | h0
     ·have hy0 : ys = [] := List.eq_nil_of_length_eq_zero h0
      subst hy0
      have hv0 : vs = [] := by
       have := hsrc.size
       simp at this
       exact this
      subst hv0
      refine ⟨_, w, g, app_zero hut hi hsrc hc, ?_, by simpa using hx', Evo.refl w g⟩
      have : S.set l (.buf (es.length + 0) e' i.size) = S := by
       rw [Nat.add_zero]
       refine List.ext_getElem? fun k => ?_
       by_cases hk : k = l
       ·subst hk
        rw [List.getElem?_set_self (List.getElem?_eq_some_iff.1 hS).1, hS]
       ·rw [List.getElem?_set_ne (fun e => hk e.symm)]
      rw [List.length_nil, this]
      exact hw
     ·by_cases hroom : es.length + ys.length ≤ c
      ·obtain ⟨hl, hbuf, hwm, hmode⟩ := hm
       have hgw : g.wm l = es.length := (hw.obj l _ hS).2.1
       rcases hmode with hmode | hmode | ⟨rfl, rfl⟩
       ·omega
       ·omega
       ·obtain ⟨_, _, hrow⟩ := hw.obj l _ hS
        rcases hrow with hrow | ⟨hown, _, hnc, hG, cur, fr, hb, hfr, hcs⟩
        ·rw [hrow] at hroom; omega
        ·have hle : (es.length + ys.length) * i.size ≤ g.cap l * i.size := Nat.mul_le_mul_right _ hroom
         rw [Nat.add_mul] at hle
         have htake : cur.toList.take (es.length * i.size) = us := by
          refine List.ext_getElem? fun j => ?_
          by_cases hj : j < es.length * i.size
          ·rw [List.getElem?_take_of_lt hj]
           have hju : us[j]? = some us[j] := List.getElem?_eq_getElem (by omega)
           have := hus4 (g.pl l) rfl j _ hju
           rw [cell_of_row w _ j cur e' fr hb] at this
           rw [hju, ← this]
           simp
          ·rw [List.getElem?_take_eq_none (by omega), List.getElem?_eq_none (by omega)]
         obtain ⟨g', h5, h6, h7⟩ := hw.extend (ys := ys) hS rfl h0 (by omega) hb hroom hcm hsz12 us vs htake hus2 hvs
         refine ⟨_, _, g', app_room hut hi hsrc hb hfr hroom ?_, h5, h7, h6⟩
         rw [hsrc.size]; omega
      ·have hrun := app_grow (ty := ty) hut hi hz hsrc (hus3 w.drew (fun _ => rfl)) (by omega) (by omega) (growslice_fits (by omega) hf1)
       have hge := grownCap_ge w (es.length + ys.length) c e'
       have hcm' : grownCap w (es.length + ys.length) c e' ≤ maxLen := grownCap_le_maxLen w _ c e' (by simp only [maxLen]; omega)
       have hlen : (es ++ ys).length = es.length + ys.length := List.length_append
       have hvl := hsrc.size
       obtain ⟨g', h5, h6, h7⟩ := (hw.draw (w.drawn + 1)).regrow (es := es ++ ys) (cur := us.toArray ++ vs.toArray ++ Builtin.zeroCells z.cells (grownCap w (es.length + ys.length) c e' - (es.length + ys.length))) (cap := grownCap w (es.length + ys.length) c e') (fr := (0, 0)) hS (by rw [hlen]; omega) hsz0 hsz12 (by rw [hlen]; exact hge) hcm' (by
         simp only [Array.size_append, List.size_toArray, zeroCells_sz _ _ _ hzs, hus1, hvl, ← Nat.add_mul]
         congr 1
         omega) (.inl (by simp)) (us ++ vs) (by
         rw [flat_append]
         refine ⟨by have := hus2.1; have := hvs.1; simp at *; omega, fun v hv => ?_, fun j u v hu hv => ?_⟩
         ·rcases List.mem_append.1 hv with hv | hv
          ·exact hus2.2.1 v hv
          ·exact hvs.2.1 v hv
         ·have hl1 : (flat es).length = us.length := by have := hus2.1; simpa using this.symm
          simp only [List.getElem?_toArray] at hv
          rw [List.getElem?_append] at hu hv
          rw [hl1] at hu
          split at hu
          ·rename_i hc; rw [if_pos hc] at hv; exact (hus2.2.2 j u v hu (by simpa using hv)).le (Evo.draw w g _).toLe.noid
          ·rename_i hc; rw [if_neg hc] at hv; exact (hvs.2.2 _ u v hu (by simpa using hv)).le (Evo.draw w g _).toLe.noid) (by
         simp only [Array.toList_append, List.append_assoc]
         rw [← List.append_assoc, List.take_left])
       rw [hlen] at h5 h7
       exact ⟨_, _, g', hrun, h5, h7, (Evo.draw w g _).trans h6⟩
   ·cases h
  ·cases h
 ·rename_i e sz by_ ys es ht hs
  obtain ⟨hut, hsz0, i, z, hi, hz, rfl, rfl, hzs⟩ := appOf_spec ht
  split at h
  ·rename_i hcond
   obtain ⟨hall, hall', hfit⟩ := hcond
   cases h
   obtain ⟨hf1, hf2⟩ := fits_spec hfit
   have hsz1 := allSz_spec hall
   have hsz2 := allSz_spec hall'
   obtain ⟨vs, hsrc, hvs⟩ := src_ok hs hy hall'
   have hx' := hx
   cases hx with
   | sl _ _ _ A c sz0 cu hc hcm hsz hA h1 hr hm =>
    have hcn : c = es.length := hm
    obtain ⟨us, hus1, hus2, hus3, hus4⟩ := sl_cells (P := P) hx' hsz1
    have hsz12 : ∀ e ∈ es ++ ys, e.cells.length = i.size := fun e he => by
     rcases List.mem_append.1 he with he | he
     ·exact hsz1 e he
     ·exact hsz2 e he
    rcases Nat.eq_zero_or_pos ys.length with h0 | h0
    ·have hy0 : ys = [] := List.eq_nil_of_length_eq_zero h0
     subst hy0
     have hv0 : vs = [] := by
      have := hsrc.size
      simp at this
      exact this
     subst hv0
     obtain ⟨g', h5, h6, h7, h8, h9⟩ := hw.reserve es.length e i.size
     refine ⟨_, w, g', app_zero hut hi hsrc hc, by simpa using h5, ?_, h6⟩
     have hr' := hx'.le h6.toLe
     rw [List.append_nil]
     cases hr' with
     | sl _ _ _ _ _ sz0 cu hc hcm hsz hA h1 hr hm =>
      refine .sl _ _ es A c sz0 cu hc hcm hsz hA h1 hr ⟨?_, ?_, ?_, .inr (.inl hcn)⟩
      ·rw [h7, ← hw.nid]; omega
      ·rw [← hw.nid]; exact h8
      ·rw [← hw.nid, h9]; exact Nat.le_refl _
    ·have hrun := app_grow (ty := ty) hut hi hz hsrc (hus3 w.drew (fun _ => rfl)) (by omega) (by omega) (growslice_fits (by omega) hf1)
     have hge := grownCap_ge w (es.length + ys.length) c e
     have hcm' : grownCap w (es.length + ys.length) c e ≤ maxLen := grownCap_le_maxLen w _ c e (by simp only [maxLen]; omega)
     have hlen : (es ++ ys).length = es.length + ys.length := List.length_append
     have hvl := hsrc.size
     obtain ⟨g', h5, h6, h7⟩ := (hw.draw (w.drawn + 1)).new_buf (es := es ++ ys) (cur := us.toArray ++ vs.toArray ++ Builtin.zeroCells z.cells (grownCap w (es.length + ys.length) c e - (es.length + ys.length))) (e := e) (cap := grownCap w (es.length + ys.length) c e) (fr := (0, 0)) hsz0 hsz12 (by rw [hlen]; exact hge) hcm' (by
       simp only [Array.size_append, List.size_toArray, zeroCells_sz _ _ _ hzs, hus1, hvl, ← Nat.add_mul]
       congr 1
       omega) (.inl (by simp)) (us ++ vs) (by
       rw [flat_append]
       refine ⟨by have := hus2.1; have := hvs.1; simp at *; omega, fun v hv => ?_, fun j u v hu hv => ?_⟩
       ·rcases List.mem_append.1 hv with hv | hv
        ·exact hus2.2.1 v hv
        ·exact hvs.2.1 v hv
       ·have hl1 : (flat es).length = us.length := by have := hus2.1; simpa using this.symm
        simp only [List.getElem?_toArray] at hv
        rw [List.getElem?_append] at hu hv
        rw [hl1] at hu
        split at hu
        ·rename_i hc; rw [if_pos hc] at hv; exact (hus2.2.2 j u v hu (by simpa using hv)).le (Evo.draw w g _).toLe.noid
        ·rename_i hc; rw [if_neg hc] at hv; exact (hvs.2.2 _ u v hu (by simpa using hv)).le (Evo.draw w g _).toLe.noid) (by
       simp only [Array.toList_append, List.append_assoc]
       rw [← List.append_assoc, List.take_left])
     rw [hlen] at h5 h7
     exact ⟨_, _, g', hrun, h5, h7, (Evo.draw w g _).trans h6⟩
  ·cases h
 ·rename_i e sz by_ ys l n ht hs
  split at h
  ·rename_i cs e' sz' hS
   split at h
   ·rename_i hcond
    obtain ⟨hn, rfl, rfl, hall, hfit⟩ := hcond
    cases h
    exact aApp_row ht hs hS hn hall hfit hw hx hy
   ·cases h
  ·cases h
 ·cases h
theorem does_append {o : Oper} {e : Env} {v : AV} {S' : Store} {x y : Operand} {t u : TypeId} (ho : o.op = .call { callee := .builtin .append, args := #[x, y], argTypes := #[t, u] }) (h : aApp P t u S (ev e x) (ev e y) = some (v, S')) : Does P o e S v S' :=
 does_value fun ρ w g hw hr => by
  have hx := hr x (by rw [ho]; simp [Op.operands, Call.operands])
  have hy := hr y (by rw [ho]; simp [Op.operands, Call.operands])
  obtain ⟨cv, w', g', h1, h2, h3, h4⟩ := aApp_ok (ty := o.type) h hw hx hy
  refine ⟨cv, w', g', ?_, h2, h3, h4⟩
  unfold execOp
  simp only [ho]
  show Sem.run P (do let d ← resolve ρ _ o.type; invoke d.target d.args) w = _
  simp only [resolve, Sem.run_bind, Sem.run_pure, Result.andThen_ok, invoke, builtin, List.map_toArray, List.map_cons, List.map_nil, h1]
theorem does_appendW {o : Oper} {e : Env} {v : AV} {z : SObj} {x y : Operand} {t u : TypeId} (ho : o.op = .call { callee := .builtin .append, args := #[x, y], argTypes := #[t, u] }) (h : aAppW P t u S (ev e x) (ev e y) = some (v, z)) : Does P o e S v (S ++ [z]) :=
 does_value fun ρ w g hw hr => by
  have hx := hr x (by rw [ho]; simp [Op.operands, Call.operands])
  have hy := hr y (by rw [ho]; simp [Op.operands, Call.operands])
  obtain ⟨cv, w', g', h1, h2, h3, h4⟩ := aAppW_ok (ty := o.type) h hw hx hy
  refine ⟨cv, w', g', ?_, h2, h3, h4⟩
  unfold execOp
  simp only [ho]
  show Sem.run P (do let d ← resolve ρ _ o.type; invoke d.target d.args) w = _
  simp only [resolve, Sem.run_bind, Sem.run_pure, Result.andThen_ok, invoke, builtin, List.map_toArray, List.map_cons, List.map_nil, h1]
theorem does_bytes {o : Oper} {e : Env} {x : Operand} {s d el : TypeId} {l : List UInt8} (ho : o.op = .convert s d x) (hs : kdOf P s = .str) (hd : P.underlying d = some (.slice el)) (he : P.underlying el = some (.int .u8)) (hx : ev e x = .st l) (hm : l.length ≤ 140737488355328) :
  Does P o e S (.sl (.own S.length) (l.map u8)) (S ++ [.buf l.length el 1]) :=
 does_value fun ρ w g hw hr => by
  have h := hr x (by rw [ho]; simp [Op.operands])
  rw [hx] at h
  generalize hcx : ρ x = cx at h
  cases h
  have hsize : (⟨l.toArray⟩ : ByteArray).size = l.length := by simp [ByteArray.size]
  have hrun := run_bytes_of_string (P := P) w s d el ⟨l.toArray⟩ (kd_str hs) hd he
  have hge := grownCap_ge w (⟨l.toArray⟩ : ByteArray).size 0 el
  have hcm := grownCap_le_maxLen w (⟨l.toArray⟩ : ByteArray).size 0 el (by rw [hsize]; unfold maxLen; omega)
  obtain ⟨g', h5, h6, h7⟩ := (hw.draw (w.drawn + 1)).new_buf (es := l.map u8) (cur := bytesRow ⟨l.toArray⟩ (grownCap w (⟨l.toArray⟩ : ByteArray).size 0 el)) (e := el) (sz := 1) (cap := grownCap w (⟨l.toArray⟩ : ByteArray).size 0 el) (fr := ((bytesRow ⟨l.toArray⟩ (grownCap w (⟨l.toArray⟩ : ByteArray).size 0 el)).size, (bytesRow ⟨l.toArray⟩ (grownCap w (⟨l.toArray⟩ : ByteArray).size 0 el)).size + 1)) (by omega) (fun v hv => by
    obtain ⟨b, _, rfl⟩ := List.mem_map.1 hv; rfl) (by rw [List.length_map]; rw [hsize] at hge; exact hge) hcm (by
    simp only [bytesRow, Array.size_append, Array.size_map, Array.size_replicate, Nat.mul_one]
    have e1 : (⟨l.toArray⟩ : ByteArray).data.size = l.length := by simp
    have e2 : l.toArray.size = l.length := by simp
    have e3 := hge
    rw [hsize] at e3 ⊢
    omega) (.inr (Nat.le_refl _)) (l.map w8) (by
    rw [flat_u8]
    refine ⟨by simp, oneCell_map8 l, fun j u v hu hv => ?_⟩
    rw [List.getElem?_map] at hu
    obtain ⟨b, hb, rfl⟩ := Option.map_eq_some_iff.1 hu
    simp [hb] at hv
    rw [← hv]
    exact .it _ _ _) (by
    simp only [bytesRow, Array.toList_append, Array.toList_map, Array.toList_replicate, List.length_map]
    rw [List.take_append_of_le_length (by simp)]
    rw [List.take_of_length_le (by simp)]
    rfl)
  rw [List.length_map] at h5 h7
  rw [hsize] at hrun h7
  refine ⟨_, _, g', ?_, h5, h7, (Evo.draw w g _).trans h6⟩
  unfold execOp
  simp only [ho, hcx, Sem.run_bind, hrun, Result.andThen_ok, Sem.run_pure]
  rfl
end
end Go.Proofs.YtlefikdjhnaapaaGreatDoor.Pe
end
section
namespace Go.Proofs.YtlefikdjhnaapaaGreatDoor.Pe
open Go Go.RowKit
variable [Tab]
def Mode.ren (ρ : Nat → Nat) : Mode → Mode
 | .own l => .own (ρ l)
 | m => m
def AV.r0 (ρ : Nat → Nat) : AV → AV
 | .ptr l o => .ptr (ρ l) o
 | .mp l => .mp (ρ l)
 | .ws l o n c => .ws (ρ l) o n c
 | .wr l n o => .wr (ρ l) n o
 | .sl m es => .sl (m.ren ρ) es
 | v => v
def AV.r1 (ρ : Nat → Nat) : AV → AV
 | .fn f a c => .fn f (a.map (AV.r0 ρ)) (c.map (AV.r0 ρ))
 | v => v.r0 ρ
def AV.r2 (ρ : Nat → Nat) : AV → AV
 | .agg cs => .agg (cs.map (AV.r1 ρ))
 | v => v.r1 ρ
def AV.ren (ρ : Nat → Nat) : AV → AV
 | .tup vs => .tup (vs.map (AV.r2 ρ))
 | v => v.r2 ρ
def AV.o0 (n : Nat) : AV → Bool
 | .ptr l _ => decide (l < n)
 | .mp l => decide (l < n)
 | .ws l _ _ _ => decide (l < n)
 | .wr l _ _ => decide (l < n)
 | .sl (.own l) _ => decide (l < n)
 | .agg _ => false
 | .tup _ => false
 | .fn _ _ _ => false
 | _ => true
def AV.o1 (n : Nat) : AV → Bool
 | .fn _ a c => a.all (AV.o0 n) && c.all (AV.o0 n)
 | v => v.o0 n
def AV.o2 (n : Nat) : AV → Bool
 | .agg cs => cs.all (AV.o1 n)
 | v => v.o1 n
def AV.ok (n : Nat) : AV → Bool
 | .tup vs => vs.all (AV.o2 n)
 | v => v.o2 n
def SObj.ren (ρ : Nat → Nat) : SObj → SObj
 | .cells cs => .cells (cs.map (AV.r1 ρ))
 | .row cs e sz => .row (cs.map (AV.r1 ρ)) e sz
 | .loop b D fn es ps asn bdy st => .loop b D fn (es.map (AV.ren ρ)) ps asn bdy st
 | .map es => .map (es.map fun p => (p.1.r1 ρ, p.2.r2 ρ))
 | o => o
def SObj.ok (n : Nat) : SObj → Bool
 | .cells cs => cs.all (AV.o1 n)
 | .row cs _ _ => cs.all (AV.o1 n)
 | .loop _ _ _ es _ _ _ _ => es.all (AV.ok n)
 | .map es => es.all fun p => p.1.o1 n && p.2.o2 n
 | _ => true
structure RenOk (w : World) (g : Gh) (w' : World) (g' : Gh) (ρ : Nat → Nat) (n : Nat) : Prop where
 noid : Le w g.noid w' g'.noid
 ids : ∀ l, l < n → l < g.nid → ρ l < g'.nid ∧ g'.pl (ρ l) = g.pl l ∧ g'.buf (ρ l) = g.buf l ∧ g'.wm (ρ l) = g.wm l ∧ g'.cap (ρ l) = g.cap l
section
variable {w w' : World} {g g' : Gh} {ρ : Nat → Nat} {n : Nat}
theorem Rel.r0 (H : RenOk w g w' g' ρ n) {v : AV} {cv : Value} (h : Rel w g v cv) (hk : v.o0 n = true) : Rel w' g' (v.r0 ρ) cv := by
 cases h with
 | bo => exact .bo _ _
 | it => exact .it _ _ _
 | st => exact .st _ _
 | ot _ _ h => exact .ot _ _ h
 | junk => exact .junk _ _
 | sl _ m es A c sz cu hc hcm hsz hA h1 hr hm =>
  refine .sl _ _ es A c sz cu hc hcm hsz (fun h0 => ?_) h1 (fun j u hu => (hr j u hu).le H.noid) ?_
  ·obtain ⟨b, o, rfl, hcell⟩ := hA h0
   exact ⟨b, o, rfl, fun j hj => ⟨H.noid.G b _ _ (hcell j hj).1 (hcell j hj).2, H.noid.cell b _ _ (hcell j hj).1 (hcell j hj).2⟩⟩
  ·cases m with
   | ro => trivial
   | full => exact hm
   | own l =>
    have hl : l < n := by simpa [AV.o0] using hk
    obtain ⟨a, b, c', d⟩ := hm
    obtain ⟨e1, e2, e3, e4, e5⟩ := H.ids l hl a
    refine ⟨e1, by rw [e3]; exact b, by rw [e4]; exact c', ?_⟩
    rw [e2, e4, e5]; exact d
 | agg => simp [AV.o0] at hk
 | tup => simp [AV.o0] at hk
 | ptr _ l off hl hb =>
  have hln : l < n := by simpa [AV.o0] using hk
  obtain ⟨e1, e2, e3, e4, e5⟩ := H.ids l hln hl
  rw [← e2]
  exact .ptr _ _ off e1 (e3.trans hb)
 | pst _ e off b o cu hA h1 hr =>
  exact .pst _ e off b o cu (fun j hj => ⟨H.noid.G b _ _ (hA j hj).1 (hA j hj).2, H.noid.cell b _ _ (hA j hj).1 (hA j hj).2⟩) h1 fun j u hu => (hr j u hu).le H.noid
 | fn => simp [AV.o0] at hk
 | fm _ es b me clock hG hb hs hkr hvr =>
  have := H.noid.map b me clock hG hb
  exact .fm _ es b me clock this.1 this.2 hs (fun j u x hu hx => (hkr j u x hu hx).le H.noid) fun j u x hu hx => (hvr j u x hu hx).le H.noid
 | mp _ l hl hb =>
  have hln : l < n := by simpa [AV.o0] using hk
  obtain ⟨e1, e2, e3, e4, e5⟩ := H.ids l hln hl
  rw [← e2]
  exact .mp _ _ e1 (e3.trans hb)
 | ws _ l o n' c hl hb hc hm =>
  have hln : l < n := by simpa [AV.o0] using hk
  obtain ⟨e1, e2, e3, e4, e5⟩ := H.ids l hln hl
  rw [← e2]
  exact .ws _ _ o n' c e1 (e3.trans hb) hc hm
 | wr _ l n' c A hl hb hw hc hm h0 hA =>
  have hln : l < n := by simpa [AV.o0] using hk
  obtain ⟨e1, e2, e3, e4, e5⟩ := H.ids l hln hl
  exact .wr _ _ n' c A e1 (e3.trans hb) (by rw [e4]; exact hw) hc hm h0 (by rw [e2, e4, e5]; exact hA)
 | wp _ l n' off b o hl hb hw hA =>
  have hln : l < n := by simpa [AV.o0] using hk
  obtain ⟨e1, e2, e3, e4, e5⟩ := H.ids l hln hl
  exact .wp _ _ n' off b o e1 (e3.trans hb) (by rw [e4]; exact hw) (by rw [e2, e4]; exact hA)
theorem map_rel {f : AV → AV} {p : AV → Bool} {vs : List AV} {arr : Array Value} (hf : ∀ u v, p u = true → Rel w g u v → Rel w' g' (f u) v) (hk : vs.all p = true)
  (h : ∀ (j : Nat) u v, vs[j]? = some u → arr[j]? = some v → Rel w g u v) : ∀ (j : Nat) u v, (vs.map f)[j]? = some u → arr[j]? = some v → Rel w' g' u v := by
 intro j u v hu hv
 rw [List.getElem?_map] at hu
 obtain ⟨u', hu', rfl⟩ := Option.map_eq_some_iff.1 hu
 exact hf u' v ((List.all_eq_true.1 hk) u' (List.mem_iff_getElem?.2 ⟨j, hu'⟩)) (h j u' v hu' hv)
theorem Rel.r1 (H : RenOk w g w' g' ρ n) {v : AV} {cv : Value} (h : Rel w g v cv) (hk : v.o1 n = true) : Rel w' g' (v.r1 ρ) cv := by
 cases v with
 | fn f a c =>
  simp only [AV.o1, Bool.and_eq_true] at hk
  cases h with
  | fn _ _ _ _ fa ca hf hc hrf hrc =>
   exact .fn _ f _ _ fa ca (by simpa using hf) (by simpa using hc) (map_rel (fun u v hp hr => hr.r0 H hp) hk.1 hrf) (map_rel (fun u v hp hr => hr.r0 H hp) hk.2 hrc)
 | _ => exact Rel.r0 H h hk
theorem Rel.r2 (H : RenOk w g w' g' ρ n) {v : AV} {cv : Value} (h : Rel w g v cv) (hk : v.o2 n = true) : Rel w' g' (v.r2 ρ) cv := by
 cases v with
 | agg cs =>
  cases h with
  | agg _ _ arr hn h1 hr => exact .agg _ _ arr (by simpa using hn) h1 (map_rel (fun u v hp hr => hr.r1 H hp) hk hr)
 | _ => exact Rel.r1 H h hk
theorem Rel.ren (H : RenOk w g w' g' ρ n) {v : AV} {cv : Value} (h : Rel w g v cv) (hk : v.ok n = true) : Rel w' g' (v.ren ρ) cv := by
 cases v with
 | tup vs =>
  cases h with
  | tup _ _ arr hn hr => exact .tup _ _ arr (by simpa using hn) (map_rel (fun u v hp hr => hr.r2 H hp) hk hr)
 | _ => exact Rel.r2 H h hk
structure UnOk (w : World) (g : Gh) (w' : World) (g' : Gh) (ρ : Nat → Nat) (n : Nat) : Prop where
 noid : Le w g.noid w' g'.noid
 ids : ∀ l, l < n → l < g'.nid ∧ g'.pl l = g.pl (ρ l) ∧ g'.buf l = g.buf (ρ l) ∧ g'.wm l = g.wm (ρ l) ∧ g'.cap l = g.cap (ρ l)
theorem Rel.u0 (H : UnOk w g w' g' ρ n) {v : AV} {cv : Value} (h : Rel w g (v.r0 ρ) cv) (hk : v.o0 n = true) : Rel w' g' v cv := by
 cases v with
 | bo b => cases h; exact .bo _ _
 | it k m => cases h; exact .it _ _ _
 | st l => cases h; exact .st _ _
 | ot v => cases h with | ot _ _ h => exact .ot _ _ h
 | junk => exact .junk _ _
 | sl m es =>
  cases h with
  | sl _ _ _ A c sz cu hc hcm hsz hA h1 hr hm =>
   refine .sl _ _ es A c sz cu hc hcm hsz (fun h0 => ?_) h1 (fun j u hu => (hr j u hu).le H.noid) ?_
   ·obtain ⟨b, o, rfl, hcell⟩ := hA h0
    exact ⟨b, o, rfl, fun j hj => ⟨H.noid.G b _ _ (hcell j hj).1 (hcell j hj).2, H.noid.cell b _ _ (hcell j hj).1 (hcell j hj).2⟩⟩
   ·cases m with
    | ro => trivial
    | full => exact hm
    | own l =>
     have hl : l < n := by simpa [AV.o0] using hk
     obtain ⟨a, b, c', d⟩ := hm
     obtain ⟨e1, e2, e3, e4, e5⟩ := H.ids l hl
     refine ⟨e1, by rw [e3]; exact b, by rw [e4]; exact c', ?_⟩
     rw [e2, e4, e5]; exact d
 | agg => simp [AV.o0] at hk
 | tup => simp [AV.o0] at hk
 | fn => simp [AV.o0] at hk
 | ptr l off =>
  have hln : l < n := by simpa [AV.o0] using hk
  obtain ⟨e1, e2, e3, e4, e5⟩ := H.ids l hln
  cases h with
  | ptr _ _ _ hl hb =>
   rw [← e2]
   exact .ptr _ _ off e1 (e3.trans hb)
 | pst e off =>
  cases h with
  | pst _ _ _ b o cu hA h1 hr =>
   exact .pst _ e off b o cu (fun j hj => ⟨H.noid.G b _ _ (hA j hj).1 (hA j hj).2, H.noid.cell b _ _ (hA j hj).1 (hA j hj).2⟩) h1 fun j u hu => (hr j u hu).le H.noid
 | fm es =>
  cases h with
  | fm _ _ b me clock hG hb hs hkr hvr =>
   have := H.noid.map b me clock hG hb
   exact .fm _ es b me clock this.1 this.2 hs (fun j u x hu hx => (hkr j u x hu hx).le H.noid) fun j u x hu hx => (hvr j u x hu hx).le H.noid
 | mp l =>
  have hln : l < n := by simpa [AV.o0] using hk
  obtain ⟨e1, e2, e3, e4, e5⟩ := H.ids l hln
  cases h with
  | mp _ _ hl hb =>
   rw [← e2]
   exact .mp _ _ e1 (e3.trans hb)
 | ws l o n' c =>
  have hln : l < n := by simpa [AV.o0] using hk
  obtain ⟨e1, e2, e3, e4, e5⟩ := H.ids l hln
  cases h with
  | ws _ _ _ _ _ hl hb hc hm =>
   rw [← e2]
   exact .ws _ _ o n' c e1 (e3.trans hb) hc hm
 | wr l n' o =>
  have hln : l < n := by simpa [AV.o0] using hk
  obtain ⟨e1, e2, e3, e4, e5⟩ := H.ids l hln
  cases h with
  | wr _ _ _ c A hl hb hw hc hm h0 hA =>
   exact .wr _ _ n' c A e1 (e3.trans hb) (by rw [e4]; exact hw) hc hm h0 (by rw [e2, e4, e5]; exact hA)
  | wp _ _ _ off b o hl hb hw hA =>
   exact .wp _ _ n' off b o e1 (e3.trans hb) (by rw [e4]; exact hw) (by rw [e2, e4]; exact hA)
theorem unmap_rel {f : AV → AV} {p : AV → Bool} {vs : List AV} {arr : Array Value} (hf : ∀ u v, p u = true → Rel w g (f u) v → Rel w' g' u v) (hk : vs.all p = true)
  (h : ∀ (j : Nat) u v, (vs.map f)[j]? = some u → arr[j]? = some v → Rel w g u v) : ∀ (j : Nat) u v, vs[j]? = some u → arr[j]? = some v → Rel w' g' u v := by
 intro j u v hu hv
 exact hf u v ((List.all_eq_true.1 hk) u (List.mem_iff_getElem?.2 ⟨j, hu⟩)) (h j (f u) v (by rw [List.getElem?_map, hu]; rfl) hv)
theorem Rel.u1 (H : UnOk w g w' g' ρ n) {v : AV} {cv : Value} (h : Rel w g (v.r1 ρ) cv) (hk : v.o1 n = true) : Rel w' g' v cv := by
 cases v with
 | fn f a c =>
  simp only [AV.o1, Bool.and_eq_true] at hk
  cases h with
  | fn _ _ _ _ fa ca hf hc hrf hrc =>
   exact .fn _ f _ _ fa ca (by simpa using hf) (by simpa using hc) (unmap_rel (fun u v hp hr => Rel.u0 H hr hp) hk.1 hrf) (unmap_rel (fun u v hp hr => Rel.u0 H hr hp) hk.2 hrc)
 | _ => exact Rel.u0 H h hk
theorem Rel.u2 (H : UnOk w g w' g' ρ n) {v : AV} {cv : Value} (h : Rel w g (v.r2 ρ) cv) (hk : v.o2 n = true) : Rel w' g' v cv := by
 cases v with
 | agg cs =>
  cases h with
  | agg _ _ arr hn h1 hr => exact .agg _ _ arr (by simpa using hn) h1 (unmap_rel (fun u v hp hr => Rel.u1 H hr hp) hk hr)
 | _ => exact Rel.u1 H h hk
theorem Rel.unren (H : UnOk w g w' g' ρ n) {v : AV} {cv : Value} (h : Rel w g (v.ren ρ) cv) (hk : v.ok n = true) : Rel w' g' v cv := by
 cases v with
 | tup vs =>
  cases h with
  | tup _ _ arr hn hr => exact .tup _ _ arr (by simpa using hn) (unmap_rel (fun u v hp hr => Rel.u2 H hr hp) hk hr)
 | _ => exact Rel.u2 H h hk
end
def Gh.sub (g : Gh) (κ : List Nat) : Gh :=
 { G := g.G, pl := fun i => g.pl (κ.getD i 0), own := fun i => g.own (κ.getD i 0), nid := κ.length, buf := fun i => g.buf (κ.getD i 0), wm := fun i => g.wm (κ.getD i 0), cap := fun i => g.cap (κ.getD i 0) }
def idx (κ : List Nat) (i : Nat) : Nat := κ.getD i 0
theorem un_sub (w : World) (g : Gh) (κ : List Nat) : UnOk w g w (g.sub κ) (idx κ) κ.length :=
 ⟨⟨fun _ _ _ _ h => h, fun _ _ _ h _ => h, Nat.le_refl _, fun l hl => absurd hl (Nat.not_lt_zero _), fun _ _ _ h h' => ⟨h, h'⟩⟩, fun l hl => ⟨hl, rfl, rfl, rfl, rfl⟩⟩
theorem ObjOk.un {w : World} {g : Gh} {κ : List Nat} {i : Nat} (hi : i < κ.length) {o : SObj} (h : ObjOk w g (idx κ i) (o.ren (idx κ))) (hk : o.ok κ.length = true) : ObjOk w (g.sub κ) i o := by
 cases o with
 | cells cs =>
  obtain ⟨h1, h2, h3, arr, T, fr, h4, h5, h6, h7, h8⟩ := h
  refine ⟨h1, h2, h3, arr, T, fr, h4, h5, by simpa using h6, h7, ?_⟩
  exact unmap_rel (fun u v hp hr => Rel.u1 (un_sub w g κ) hr hp) hk h8
 | buf n e sz => exact h
 | ext X => exact h
 | map es =>
  obtain ⟨h1, h2, h3, me, clock, h4, h5, h6, h7, h8⟩ := h
  refine ⟨h1, h2, h3, me, clock, h4, by simpa using h5, h6, h7, fun j u x hu hx => ?_⟩
  have hp := List.all_eq_true.1 hk u (List.mem_of_getElem? hu)
  simp only [Bool.and_eq_true] at hp
  have := h8 j (u.1.r1 (idx κ), u.2.r2 (idx κ)) x (by rw [List.getElem?_map, hu]; rfl) hx
  exact ⟨Rel.u1 (un_sub w g κ) this.1 hp.1, Rel.u2 (un_sub w g κ) this.2 hp.2⟩
 | siter s pos => exact h
 | dead => trivial
 | loop b D fn es ps asn bdy st =>
  obtain ⟨h1, h2, h3, h4, tmps, h5, h6, h7⟩ := h
  exact ⟨h1, h2, h3, h4, tmps, h5, by simpa using h6, unmap_rel (fun u v hp hr => Rel.unren (un_sub w g κ) hr hp) hk h7⟩
 | row cs e sz =>
  obtain ⟨h1, h2, h3⟩ := h
  refine ⟨h1, ⟨h2.1, by have := h2.2; rw [List.length_map] at this; exact this⟩, ?_⟩
  rcases h3 with ⟨h3, h4⟩ | ⟨h3, h4, arr, fr, h5, h6, h7, h8, h9, h10⟩
  ·exact .inl ⟨h3, by simpa using h4⟩
  ·exact .inr ⟨h3, h4, arr, fr, h5, h6, h7, by simpa using h8, by simpa using h9, unmap_rel (fun u v hp hr => Rel.u1 (un_sub w g κ) hr hp) hk h10⟩
structure SubOk (κ : List Nat) (S S' : Store) : Prop where
 nodup : κ.Nodup
 len : S'.length = κ.length
 ok : ∀ i o, S'[i]? = some o → o.ok κ.length = true ∧ S[idx κ i]? = some (o.ren (idx κ))
theorem idx_inj {κ : List Nat} (h : κ.Nodup) {i j : Nat} (hi : i < κ.length) (hj : j < κ.length) (e : idx κ i = idx κ j) : i = j := by
 unfold idx at e
 rw [List.getD_eq_getElem?_getD, List.getD_eq_getElem?_getD, List.getElem?_eq_getElem hi, List.getElem?_eq_getElem hj] at e
 have e' : κ[i] = κ[j] := by simpa using e
 have hp := List.pairwise_iff_getElem.1 h
 rcases Nat.lt_trichotomy i j with hij | hij | hij
 ·exact absurd e' (hp i j hi hj hij)
 ·exact hij
 ·exact absurd e'.symm (hp j i hj hi hij)
theorem WF.sub {w : World} {g : Gh} {S S' : Store} {κ : List Nat} (h : WF w g S) (hs : SubOk κ S S') : WF w (g.sub κ) S' := by
 have hlt : ∀ i, i < κ.length → idx κ i < g.nid := by
  intro i hi
  have hi' : i < S'.length := by rw [hs.len]; exact hi
  have h1 : S'[i]? = some S'[i] := List.getElem?_eq_getElem hi'
  have h2 := (hs.ok i _ h1).2
  rw [h.nid]
  exact (List.getElem?_eq_some_iff.1 h2).1
 refine ⟨hs.len.symm, fun i o hi => ?_, fun i j b hi hj hb hb' => ?_, fun i b hi hb => h.lt (idx κ i) b (hlt i hi) hb, h.tab⟩
 ·have hil : i < κ.length := by rw [← hs.len]; exact (List.getElem?_eq_some_iff.1 hi).1
  obtain ⟨h1, h2⟩ := hs.ok i o hi
  exact (h.obj _ _ h2).un hil h1
 ·exact idx_inj hs.nodup hi hj (h.disj _ _ b (hlt i hi) (hlt j hj) hb hb')
end Go.Proofs.YtlefikdjhnaapaaGreatDoor.Pe
namespace Go.Proofs.YtlefikdjhnaapaaGreatDoor.Pe
open Go Go.RowKit
variable [Tab]
def callable (P : Program) (f : FuncId) : Bool :=
 match P.funcs[f]? with
 | some fn => fn.name != "runtime.NumGoroutine" && fn.body.isSome
 | none => false
def LRel (w : World) (g : Gh) (args : List AV) (cargs : Array Value) : Prop :=
 cargs.size = args.length ∧ ∀ (j : Nat) u v, args[j]? = some u → cargs[j]? = some v → Rel w g u v
structure AC (P : Program) (f : FuncId) (args : List AV) (S : Store) (v : AV) (S' : Store) : Prop where
 can : callable P f = true
 run : ∀ (w : World) (g : Gh) (cargs : Array Value), WF w g S → LRel w g args cargs →
  Calls P f cargs w fun r w' => ∃ cv g', r = .returned cv ∧ WF w' g' S' ∧ Rel w' g' v cv ∧ Evo w g w' g'
section
variable {P : Program}
theorem run_callFunc {f : FuncId} (h : callable P f = true) (args : Array Value) (w : World) : (callFunc f args).run P w = .ok (.enter f args) w := by
 unfold callable at h
 split at h
 ·rename_i fn hf
  simp only [Bool.and_eq_true, bne_iff_ne, ne_eq] at h
  obtain ⟨h1, h2⟩ := h
  obtain ⟨bd, hb⟩ := Option.isSome_iff_exists.1 h2
  simp [callFunc, run_program, hf, h1, hb]
 ·cases h
theorem does_call {o : Oper} {e : Env} {S S' : Store} {v : AV} {c : Call} {fo : Operand} {f : FuncId} {fa ca : List AV} (ho : o.op = .call c) (hc : c.callee = .value fo) (hf : ev e fo = .fn (.func f) fa ca)
  (h : AC P f (fa ++ c.args.toList.map (ev e) ++ ca) S v S') : Does P o e S v S' := by
 intro a w g hw hr K Q hK
 have hfo := hr fo (by rw [ho]; simp [Op.operands, Call.operands, hc])
 rw [hf] at hfo
 generalize hcf : a.eval fo = cf at hfo
 cases hfo with
 | fn _ _ _ _ fav cav hfs hcs hrf hrc =>
  have hargs : LRel w g (fa ++ c.args.toList.map (ev e) ++ ca) (fav ++ c.args.map a.eval ++ cav) := by
   refine ⟨by simp [hfs, hcs], fun j u v hu hv => ?_⟩
   have hv' : (fav.toList ++ c.args.toList.map a.eval ++ cav.toList)[j]? = some v := by
    rw [← hv, ← Array.getElem?_toList]
    simp
   have l1 : fav.toList.length = fa.length := by simpa using hfs
   rw [List.append_assoc, List.getElem?_append] at hu hv'
   rw [l1] at hv'
   split at hu
   ·rename_i h1
    rw [if_pos h1] at hv'
    exact hrf j u v hu (by simpa using hv')
   ·rename_i h1
    rw [if_neg h1] at hv'
    rw [List.getElem?_append] at hu hv'
    simp only [List.length_map] at hu hv'
    split at hu
    ·rename_i h2
     rw [if_pos h2] at hv'
     rw [List.getElem?_map] at hu hv'
     obtain ⟨x, hx, rfl⟩ := Option.map_eq_some_iff.1 hu
     rw [hx] at hv'
     cases hv'
     refine hr x ?_
     rw [ho]
     simp only [Op.operands, Call.operands, Array.toList_append, List.mem_append]
     exact .inr (List.mem_iff_getElem?.2 ⟨_, hx⟩)
    ·rename_i h2
     rw [if_neg h2] at hv'
     exact hrc _ u v hu (by simpa using hv')
  have hrun : (execOp a.eval o).run P w = .ok (.enter f (fav ++ c.args.map a.eval ++ cav)) w := by
   unfold execOp
   simp only [ho]
   show Sem.run P (do let d ← resolve a.eval c o.type; invoke d.target d.args) w = _
   simp only [resolve, hc, hcf, Deferred.ofValue, Sem.run_bind, Sem.run_pure, Result.andThen_ok, invoke]
   rw [run_callFunc h.can]
  refine wq_enter hrun ((h.run w g _ hw hargs).mono ?_)
  rintro r w' ⟨cv, g', rfl, h1, h2, h3⟩
  exact ⟨cv, rfl, hK cv w' g' h1 h2 h3⟩
end
def ext (κ : List Nat) (N : Nat) : Nat → Nat := fun i => if i < κ.length then idx κ i else N + (i - κ.length)
def setAll : Store → List Nat → Store → Store
 | T, [], _ => T
 | T, l :: κ, o :: S => setAll (T.set l o) κ S
 | T, _ :: _, [] => T
def after (κ : List Nat) (T S' : Store) : Store := setAll T κ (S'.map (·.ren (ext κ T.length))) ++ (S'.drop κ.length).map (·.ren (ext κ T.length))
theorem setAll_spec : ∀ (κ : List Nat) (T R : Store), κ.Nodup → (∀ l ∈ κ, l < T.length) → κ.length ≤ R.length →
  (setAll T κ R).length = T.length ∧ (∀ i, i < κ.length → (setAll T κ R)[idx κ i]? = R[i]?) ∧ ∀ l, l ∉ κ → (setAll T κ R)[l]? = T[l]?
 | [], T, R, _, _, _ => ⟨by rw [setAll], fun i hi => absurd hi (Nat.not_lt_zero _), fun _ _ => by rw [setAll]⟩
 | l :: κ, T, [], _, _, hl => by simp at hl
 | l :: κ, T, o :: R, hn, hb, hl => by
  obtain ⟨hn1, hn2⟩ := List.nodup_cons.1 hn
  obtain ⟨h1, h2, h3⟩ := setAll_spec κ (T.set l o) R hn2 (fun x hx => by rw [List.length_set]; exact hb x (by simp [hx])) (by simpa using hl)
  refine ⟨by rw [setAll, h1, List.length_set], fun i hi => ?_, fun x hx => ?_⟩
  ·cases i with
   | zero =>
    show (setAll (T.set l o) κ R)[l]? = some o
    rw [h3 l hn1, List.getElem?_set_self (hb l (by simp))]
   | succ i => exact h2 i (by simpa using hi)
  ·simp only [List.mem_cons, not_or] at hx
   rw [setAll, h3 x hx.2, List.getElem?_set_ne (fun e => hx.1 e.symm)]
section
variable {P : Program}
theorem AC.frame {f : FuncId} {args : List AV} {S S' T : Store} {v : AV} (κ : List Nat) (h : AC P f args S v S') (hs : SubOk κ T S) (ha : args.all (AV.ok κ.length) = true) (hv : v.ok S'.length = true)
  (hS' : ∀ (i : Nat) (o : SObj), S'[i]? = some o → o.ok S'.length = true) : AC P f (args.map (AV.ren (idx κ))) T (v.ren (ext κ T.length)) (after κ T S') := by
 refine ⟨h.can, fun w g cargs hw hargs => ?_⟩
 have hwc := hw.sub hs
 have hlt : ∀ i, i < κ.length → idx κ i < g.nid := by
  intro i hi
  have hi' : i < S.length := by rw [hs.len]; exact hi
  have h2 := (hs.ok i _ (List.getElem?_eq_getElem hi')).2
  rw [hw.nid]
  exact (List.getElem?_eq_some_iff.1 h2).1
 refine (h.run w (g.sub κ) cargs hwc ⟨by rw [hargs.1]; simp, unmap_rel (fun u v hp hr => Rel.unren (un_sub w g κ) hr hp) ha hargs.2⟩).mono ?_
 rintro r w' ⟨cv, gc, rfl, hw', hrv, hevo⟩
 have hnT : g.nid = T.length := hw.nid
 have hnS : gc.nid = S'.length := hw'.nid
 have hκS : κ.length ≤ S'.length := by rw [← hnS]; exact hevo.nid
 have hmem : ∀ l, l ∈ κ → κ.idxOf l < κ.length ∧ idx κ (κ.idxOf l) = l := by
  intro l hl
  have h1 := List.idxOf_lt_length_iff.2 hl
  refine ⟨h1, ?_⟩
  unfold idx
  rw [List.getD_eq_getElem?_getD, List.getElem?_eq_getElem h1]
  simp
 have hidx : ∀ i, i < κ.length → idx κ i ∈ κ ∧ κ.idxOf (idx κ i) = i := by
  intro i hi
  have hm : idx κ i ∈ κ := by
   unfold idx
   rw [List.getD_eq_getElem?_getD, List.getElem?_eq_getElem hi]
   exact List.getElem_mem hi
  exact ⟨hm, idx_inj hs.nodup (hmem _ hm).1 hi (hmem _ hm).2⟩
 -- which number of the call a number of the caller is
 let ι : Nat → Option Nat := fun l => if l < T.length then (if l ∈ κ then some (κ.idxOf l) else none) else some (l - T.length + κ.length)
 have ι1 : ∀ i, i < κ.length → ι (idx κ i) = some i := fun i hi => by
  have h1 := hlt i hi
  show (if _ then _ else _) = _
  rw [if_pos (by omega), if_pos (hidx i hi).1, (hidx i hi).2]
 have ι2 : ∀ i, κ.length ≤ i → ι (T.length + (i - κ.length)) = some i := fun i hi => by
  show (if _ then _ else _) = _
  rw [if_neg (by omega)]
  congr 1
  omega
 have ιe : ∀ i, ι (ext κ T.length i) = some i := fun i => by
  unfold ext
  split
  ·exact ι1 i (by assumption)
  ·exact ι2 i (by omega)
 have ι3 : ∀ l i, ι l = some i → l = ext κ T.length i := fun l i hl => by
  have hl' : (if l < T.length then (if l ∈ κ then some (κ.idxOf l) else none) else some (l - T.length + κ.length)) = some i := hl
  split at hl'
  ·split at hl'
   ·rename_i hm
    cases hl'
    unfold ext
    rw [if_pos (hmem l hm).1, (hmem l hm).2]
   ·cases hl'
  ·cases hl'
   unfold ext
   rw [if_neg (by omega)]
   omega
 have ι4 : ∀ l, ι l = none → l < T.length ∧ l ∉ κ := fun l hl => by
  have hl' : (if l < T.length then (if l ∈ κ then some (κ.idxOf l) else none) else some (l - T.length + κ.length)) = none := hl
  split at hl'
  ·split at hl'
   ·cases hl'
   ·exact ⟨by assumption, by assumption⟩
  ·cases hl'
 let g' : Gh := { G := gc.G, pl := fun l => match ι l with | some i => gc.pl i | none => g.pl l, own := fun l => match ι l with | some i => gc.own i | none => g.own l, nid := T.length + (S'.length - κ.length), buf := fun l => match ι l with | some i => gc.buf i | none => g.buf l, wm := fun l => match ι l with | some i => gc.wm i | none => g.wm l, cap := fun l => match ι l with | some i => gc.cap i | none => g.cap l }
 have e_pl : ∀ l i, ι l = some i → g'.pl l = gc.pl i := fun l i hl => by show (match ι l with | some i => gc.pl i | none => g.pl l) = _; rw [hl]
 have e_own : ∀ l i, ι l = some i → g'.own l = gc.own i := fun l i hl => by show (match ι l with | some i => gc.own i | none => g.own l) = _; rw [hl]
 have e_buf : ∀ l i, ι l = some i → g'.buf l = gc.buf i := fun l i hl => by show (match ι l with | some i => gc.buf i | none => g.buf l) = _; rw [hl]
 have e_wm : ∀ l i, ι l = some i → g'.wm l = gc.wm i := fun l i hl => by show (match ι l with | some i => gc.wm i | none => g.wm l) = _; rw [hl]
 have e_cap : ∀ l i, ι l = some i → g'.cap l = gc.cap i := fun l i hl => by show (match ι l with | some i => gc.cap i | none => g.cap l) = _; rw [hl]
 have n_pl : ∀ l, ι l = none → g'.pl l = g.pl l := fun l hl => by show (match ι l with | some i => gc.pl i | none => g.pl l) = _; rw [hl]
 have n_own : ∀ l, ι l = none → g'.own l = g.own l := fun l hl => by show (match ι l with | some i => gc.own i | none => g.own l) = _; rw [hl]
 have n_buf : ∀ l, ι l = none → g'.buf l = g.buf l := fun l hl => by show (match ι l with | some i => gc.buf i | none => g.buf l) = _; rw [hl]
 have n_wm : ∀ l, ι l = none → g'.wm l = g.wm l := fun l hl => by show (match ι l with | some i => gc.wm i | none => g.wm l) = _; rw [hl]
 have n_cap : ∀ l, ι l = none → g'.cap l = g.cap l := fun l hl => by show (match ι l with | some i => gc.cap i | none => g.cap l) = _; rw [hl]
 have hext_lt : ∀ i, i < S'.length → ext κ T.length i < g'.nid := fun i hi => by
  show _ < T.length + (S'.length - κ.length)
  unfold ext
  split
  ·rename_i h1; have := hlt i h1; omega
  ·omega
 have hι_lt : ∀ l i, l < g'.nid → ι l = some i → i < gc.nid := fun l i hl hi => by
  have hl' : l < T.length + (S'.length - κ.length) := hl
  have he := ι3 l i hi
  rw [hnS]
  unfold ext at he
  split at he
  ·omega
  ·omega
 have hren : RenOk w' gc w' g' (ext κ T.length) S'.length := ⟨⟨fun _ _ _ _ h => h, fun _ _ _ h _ => h, Nat.le_refl _, fun l hl => absurd hl (Nat.not_lt_zero _), fun _ _ _ h h' => ⟨h, h'⟩⟩, fun l hl _ =>
  ⟨hext_lt l hl, e_pl _ _ (ιe l), e_buf _ _ (ιe l), e_wm _ _ (ιe l), e_cap _ _ (ιe l)⟩⟩
 -- what belongs to others is not the call's
 have hother : ∀ l b, ι l = none → g.own l b → ∀ i, i < (g.sub κ).nid → ¬ (g.sub κ).own i b := fun l b hl hb i hi hb' => by
  have h4 := ι4 l hl
  have := hw.disj l (idx κ i) b (by omega) (hlt i hi) hb hb'
  exact h4.2 (by rw [this]; exact (hidx i hi).1)
 have hle : Le w g w' g' := by
  refine ⟨fun b o v hb hv => hevo.cell b o v hb hv, fun b o v hb hv => hevo.G b o v hb hv, by show g.nid ≤ T.length + _; omega, fun l hl => ?_, fun b me c hg hm => hevo.map b me c hg hm⟩
  cases hι : ι l with
  | none => exact ⟨n_buf l hι, .inl ⟨n_pl l hι, n_wm l hι, n_cap l hι⟩⟩
  | some i =>
   have he := ι3 l i hι
   have hi : i < κ.length := by
    unfold ext at he
    split at he
    ·assumption
    ·omega
   have he' : l = idx κ i := by unfold ext at he; rw [if_pos hi] at he; exact he
   obtain ⟨h1, h2⟩ := hevo.keep i hi
   rw [e_buf l i hι, e_pl l i hι, e_wm l i hι, e_cap l i hι, he']
   exact ⟨h1, h2⟩
 have hown_new : ∀ l b, l < g'.nid → g'.own l b → b < w.heap.size → l < g.nid ∧ g.own l b := fun l b hl hb hlt' => by
  cases hι : ι l with
  | none =>
   rw [n_own l hι] at hb
   have := ι4 l hι
   exact ⟨by omega, hb⟩
  | some i =>
   rw [e_own l i hι] at hb
   obtain ⟨h1, h2⟩ := hevo.own i b (hι_lt l i hl hι) hb hlt'
   have h1 : i < κ.length := h1
   have he := ι3 l i hι
   unfold ext at he
   rw [if_pos h1] at he
   rw [he]
   exact ⟨hlt i h1, h2⟩
 have hsub_un : ∀ b, (∀ l, l < g.nid → ¬ g.own l b) → ∀ i, i < (g.sub κ).nid → ¬ (g.sub κ).own i b := fun b hb i hi h => hb (idx κ i) (hlt i hi) h
 refine ⟨cv, g', rfl, ⟨?_, fun l o hl => ?_, fun l l' b hl hl' hb hb' => ?_, fun l b hl hb => ?_, hw.tab.le hle⟩, hrv.ren hren hv, ⟨hle, hevo.os, hevo.tape, hevo.output, hevo.size, fun b hb hn => hevo.old b hb (hsub_un b hn), hown_new, fun b hb hn => hevo.Gold b hb (hsub_un b hn)⟩⟩
 ·obtain ⟨h1, _, _⟩ := setAll_spec κ T (S'.map (·.ren (ext κ T.length))) hs.nodup (fun l hl => by have := hlt _ (hmem l hl).1; rw [(hmem l hl).2] at this; omega) (by simpa using hκS)
  show T.length + _ = _
  unfold after
  rw [List.length_append, h1, List.length_map, List.length_drop]
 ·obtain ⟨h1, h2, h3⟩ := setAll_spec κ T (S'.map (·.ren (ext κ T.length))) hs.nodup (fun l hl => by have := hlt _ (hmem l hl).1; rw [(hmem l hl).2] at this; omega) (by simpa using hκS)
  have hS : ∀ i o, ι l = some i → (S'.map (·.ren (ext κ T.length)))[i]? = some o → ObjOk w' g' l o := by
   intro i o hι ho
   rw [List.getElem?_map] at ho
   obtain ⟨o', ho', rfl⟩ := Option.map_eq_some_iff.1 ho
   have hob := hw'.obj i o' ho'
   have hok := hS' i o' ho'
   cases o' with
   | cells cs =>
    obtain ⟨a1, a2, a3, arr, TT, fr, a4, a5, a6, a7, a8⟩ := hob
    refine ⟨by rw [e_buf l i hι]; exact a1, by rw [e_own l i hι, e_pl l i hι]; exact a2, by rw [e_pl l i hι]; exact a3, arr, TT, fr, by rw [e_pl l i hι]; exact a4, a5, by simpa using a6, a7, ?_⟩
    exact map_rel (fun u v hp hr => hr.r1 hren hp) hok a8
   | buf n e sz =>
    obtain ⟨a1, a2, a3⟩ := hob
    refine ⟨by rw [e_buf l i hι]; exact a1, by rw [e_wm l i hι]; exact a2, ?_⟩
    rw [e_own l i hι, e_pl l i hι, e_cap l i hι]
    exact a3
   | ext X =>
    obtain ⟨a1, a2, a3, a4⟩ := hob
    refine ⟨by rw [e_buf l i hι]; exact a1, by rw [e_own l i hι, e_pl l i hι]; exact a2, ?_, ?_⟩
    ·rw [e_own l i hι]; exact a3
    ·rw [e_own l i hι, e_pl l i hι]; exact a4
   | map es =>
    obtain ⟨a1, a2, a3, me, clock, a4, a5, a6, a7, a8⟩ := hob
    refine ⟨by rw [e_buf l i hι]; exact a1, by rw [e_own l i hι, e_pl l i hι]; exact a2, by rw [e_pl l i hι]; exact a3, me, clock, by rw [e_pl l i hι]; exact a4, by simpa using a5, a6, a7, fun j u x hu hx => ?_⟩
    rw [List.getElem?_map] at hu
    obtain ⟨u', hu', rfl⟩ := Option.map_eq_some_iff.1 hu
    have hp := List.all_eq_true.1 hok u' (List.mem_of_getElem? hu')
    simp only [Bool.and_eq_true] at hp
    have := a8 j u' x hu' hx
    exact ⟨this.1.r1 hren hp.1, this.2.r2 hren hp.2⟩
   | siter s pos =>
    obtain ⟨a1, a2, a3, a4⟩ := hob
    exact ⟨by rw [e_buf l i hι]; exact a1, by rw [e_own l i hι, e_pl l i hι]; exact a2, by rw [e_pl l i hι]; exact a3, by rw [e_pl l i hι]; exact a4⟩
   | dead => trivial
   | loop b D fn es ps asn bdy st =>
    obtain ⟨a1, a2, a3, a4, tmps, a5, a6, a7⟩ := hob
    exact ⟨by rw [e_buf l i hι]; exact a1, by rw [e_own l i hι, e_pl l i hι]; exact a2, by rw [e_pl l i hι]; exact a3, by rw [e_pl l i hι]; exact a4, tmps, by rw [e_pl l i hι]; exact a5, by simpa using a6, map_rel (fun u v hp hr => hr.ren hren hp) hok a7⟩
   | row cs e sz =>
    obtain ⟨a1, a2, a3⟩ := hob
    refine ⟨by rw [e_buf l i hι]; exact a1, by rw [e_wm l i hι]; simpa using a2, ?_⟩
    rw [e_own l i hι, e_pl l i hι, e_cap l i hι]
    rcases a3 with ⟨a3, a4⟩ | ⟨a3, a4, arr, fr, a5, a6, a7, a8, a9, a10⟩
    ·exact .inl ⟨a3, by simpa using a4⟩
    ·exact .inr ⟨a3, a4, arr, fr, a5, a6, a7, by simpa using a8, by simpa using a9, map_rel (fun u v hp hr => hr.r1 hren hp) hok a10⟩
  unfold after at hl
  by_cases hlT : l < T.length
  ·rw [List.getElem?_append_left (by rw [h1]; exact hlT)] at hl
   by_cases hm : l ∈ κ
   ·have h5 := hmem l hm
    have := h2 _ h5.1
    rw [h5.2, hl] at this
    have hι : ι l = some (κ.idxOf l) := by have := ι1 _ h5.1; rw [h5.2] at this; exact this
    exact hS _ o hι this.symm
   ·rw [h3 l hm] at hl
    have hι : ι l = none := by show (if _ then _ else _) = _; rw [if_pos hlT, if_neg hm]
    exact (hw.obj l o hl).keep hle (n_pl l hι) (n_buf l hι) (n_wm l hι) (n_cap l hι) (n_own l hι) (fun b hb => hevo.Gold b (hw.lt l b (by omega) hb) (hother l b hι hb)) (fun b hb => hevo.old b (hw.lt l b (by omega) hb) (hother l b hι hb))
  ·rw [List.getElem?_append_right (by rw [h1]; omega), h1, List.getElem?_map, List.getElem?_drop] at hl
   obtain ⟨o', ho', rfl⟩ := Option.map_eq_some_iff.1 hl
   have hι : ι l = some (κ.length + (l - T.length)) := by
    have := ι2 (κ.length + (l - T.length)) (by omega)
    rw [show T.length + (κ.length + (l - T.length) - κ.length) = l from by omega] at this
    exact this
   exact hS _ _ hι (by rw [List.getElem?_map, ho']; rfl)
 ·cases hι : ι l with
  | none =>
   have h4 := ι4 l hι
   have hb1 := hb
   rw [n_own l hι] at hb1
   cases hι' : ι l' with
   | none =>
    have h4' := ι4 l' hι'
    rw [n_own l' hι'] at hb'
    exact hw.disj l l' b (by omega) (by omega) hb1 hb'
   | some j =>
    have := hown_new l' b hl' hb' (hw.lt l b (by omega) hb1)
    exact hw.disj l l' b (by omega) this.1 hb1 this.2
  | some i =>
   cases hι' : ι l' with
   | none =>
    have h4' := ι4 l' hι'
    rw [n_own l' hι'] at hb'
    have := hown_new l b hl hb (hw.lt l' b (by omega) hb')
    exact hw.disj l l' b this.1 (by omega) this.2 hb'
   | some j =>
    rw [e_own l i hι] at hb
    rw [e_own l' j hι'] at hb'
    have := hw'.disj i j b (hι_lt l i hl hι) (hι_lt l' j hl' hι') hb hb'
    rw [ι3 l i hι, ι3 l' j hι', this]
 ·cases hι : ι l with
  | none =>
   rw [n_own l hι] at hb
   have := hw.lt l b (by have := ι4 l hι; omega) hb
   have := hevo.size
   omega
  | some i =>
   rw [e_own l i hι] at hb
   exact hw'.lt i b (hι_lt l i hl hι) hb
end
end Go.Proofs.YtlefikdjhnaapaaGreatDoor.Pe
namespace Go.Proofs.YtlefikdjhnaapaaGreatDoor.Pe
open Go Go.RowKit Go.MapKept
variable [Tab]
def mkz (zs : List AV) (n : Nat) : List AV := (List.range n).map fun j => zs.getD (j % zs.length) .junk
theorem mkz_one (z : AV) (n : Nat) : mkz [z] n = List.replicate n z := by
 refine List.ext_getElem (by simp [mkz]) fun j h1 h2 => ?_
 simp [mkz, Nat.mod_one]
theorem made_rel {w : World} {g : Gh} {z : Value} (h : ∀ v ∈ z.cells.toList, v.oneCell' = true) (n : Nat) (hpos : 0 < z.cells.size) : CellsRel w g (mkz (z.cells.toList.map cst1) n) (madeCells z.cells n) := by
 have hget : ∀ j, j < n → (madeCells z.cells n)[j]? = some (z.cells[j % z.cells.size]'(Nat.mod_lt _ hpos)) := fun j hj => by
  have : j % z.cells.size < z.cells.size := Nat.mod_lt _ hpos
  simp [madeCells, hj, this]
 refine ⟨by simp [mkz, madeCells], fun v hv => ?_, fun j u v hu hv => ?_⟩
 ·obtain ⟨j, hj⟩ := List.mem_iff_getElem?.1 hv
  have hj : (madeCells z.cells n)[j]? = some v := by simpa using hj
  have hjn : j < n := by have := (Array.getElem?_eq_some_iff.1 hj).1; simpa [madeCells] using this
  rw [hget j hjn] at hj
  cases hj
  exact h _ (by simp)
 ·have hjn : j < n := by have := (Array.getElem?_eq_some_iff.1 hv).1; simpa [madeCells] using this
  rw [hget j hjn] at hv
  cases hv
  have hm : j % z.cells.size < z.cells.size := Nat.mod_lt _ hpos
  have : u = cst1 z.cells[j % z.cells.size] := by
   rw [mkz, List.getElem?_map, List.getElem?_range hjn] at hu
   simp only [Option.map_some, Option.some.injEq, List.length_map, Array.length_toList] at hu
   rw [← hu, List.getD_eq_getElem?_getD, List.getElem?_map]
   simp [hm]
  rw [this]
  exact cst1_ok w g _
theorem rel_ptr_inv {w : World} {g : Gh} {l o b : Nat} (h : Rel w g (.ptr l o) (.pointer (some ⟨b, o, none⟩))) : l < g.nid ∧ g.buf l = false ∧ g.pl l = b := by
 generalize hq : Value.pointer (some ⟨b, o, none⟩) = q at h
 cases h with
 | ptr _ _ _ hl hb =>
  simp only [Value.pointer.injEq, Option.some.injEq, Addr.mk.injEq] at hq
  exact ⟨hl, hb, hq.1.symm⟩
def aMakeW (P : Program) (t : TypeId) (l c : AV) (S : Store) : Option (AV × Store) :=
 match appOf P t, l, c with
 | some (e, sz, by_), .it _ n, .it _ m => match zerOf P e with
  | some zs => if 0 < n ∧ n ≤ m ∧ fits m.toNat by_ = true then some (.ws S.length 0 n.toNat m.toNat, S ++ [.cells (mkz zs (m.toNat * sz))]) else none
  | none => none
 | _, _, _ => none
section
variable {P : Program}
theorem does_makeW {o : Oper} {e : Env} {S S' : Store} {v : AV} {t : TypeId} {x y : Operand} (ho : o.op = .makeSlice t x y) (h : aMakeW P t (ev e x) (ev e y) S = some (v, S')) : Does P o e S v S' :=
 does_value fun ρ w g hw hr => by
  have hx := hr x (by rw [ho]; simp [Op.operands])
  have hy := hr y (by rw [ho]; simp [Op.operands])
  unfold aMakeW at h
  split at h
  ·rename_i el sz by_ k n k' m ht h1 h2
   obtain ⟨hut, hsz0, i, z, hi, hz, rfl, rfl, hzs⟩ := appOf_spec ht
   split at h
   ·rename_i zs hzer
    obtain ⟨i', z', hi', hz', hone, rfl⟩ := zerOf_spec hzer
    rw [hi] at hi'; cases hi'
    rw [hz] at hz'; cases hz'
    split at h
    ·rename_i hcond
     obtain ⟨h0, hnm, hfit⟩ := hcond
     cases h
     obtain ⟨hf1, hf2⟩ := fits_spec hfit
     rw [h1] at hx
     rw [h2] at hy
     generalize hcx : ρ x = cx at hx
     generalize hcy : ρ y = cy at hy
     cases hx; cases hy
     have hmm : (m.toNat : Int) = m := Int.toNat_of_nonneg (by omega)
     have hcb : (i.bytes : Int) * m ≤ 140737488355328 := by
      have h3 : ((m.toNat * i.bytes : Nat) : Int) ≤ 140737488355328 := by omega
      rw [Int.natCast_mul, hmm, Int.mul_comm] at h3
      exact h3
     have hrun := run_make (P := P) w t el i z hut hi hz k k' n m (by omega) hnm (by omega) (by omega)
     obtain ⟨g', h5, h6, h7⟩ := hw.new_cells (made_rel (w := w) (g := g) hone (m.toNat * i.size) (by omega)) el
     refine ⟨.slice (some ⟨w.heap.size, 0, none⟩) n.toNat m.toNat, _, g', ?_, h5, ?_, h6⟩
     ·unfold execOp
      simp only [ho, hcx, hcy, Sem.run_bind, hrun, Result.andThen_ok, Sem.run_pure]
     ·obtain ⟨hl, hb, hp⟩ := rel_ptr_inv h7
      have := Rel.ws (w := w.alloc (.cells (madeCells z.cells (m.toNat * i.size)) el)) g' S.length 0 n.toNat m.toNat hl hb (by omega) (by unfold maxLen; omega)
      rw [hp] at this
      exact this
    ·cases h
   ·cases h
  ·cases h
def keq : AV → AV → Option Bool
 | .it k a, .it k' b => if k = k' then some (a == b) else none
 | .st a, .st b => some (a == b)
 | .bo a, .bo b => some (a == b)
 | _, _ => none
def kfind (k : AV) : List (AV × AV) → Nat → Option (Option (Nat × AV))
 | [], _ => some none
 | (k', v) :: r, i => match keq k k' with
  | some true => some (some (i, v))
  | some false => kfind k r (i + 1)
  | none => none
def mapOf (P : Program) (t : TypeId) : Option (Option IntKind × AV) :=
 match P.underlying t with
 | some (.map k e) => match P.underlying k, P.info? e with
  | some (.int q), some i => i.zero.map fun z => (some q, cst z)
  | some .string, some i => i.zero.map fun z => (none, cst z)
  | _, _ => none
 | _ => none
def kok : Option IntKind → AV → Bool
 | some q, .it k _ => k == q
 | none, .st _ => true
 | _, _ => false
theorem mapOf_spec {t : TypeId} {b : Option IntKind} {z : AV} (h : mapOf P t = some (b, z)) : ∃ k e d i zv, P.underlying t = some (.map k e) ∧ P.underlying k = some d ∧ P.info? e = some i ∧ i.zero = some zv ∧ z = cst zv ∧
  (∀ (w : World) (g : Gh) (u : AV) (v : Value), kok b u = true → Rel w g u v → IsKey d v) := by
 unfold mapOf at h
 split at h
 ·rename_i k e hm
  split at h
  ·rename_i q i hk hi
   obtain ⟨zv, hz, h⟩ := Option.map_eq_some_iff.1 h
   cases h
   refine ⟨k, e, _, i, zv, hm, hk, hi, hz, rfl, fun w g u v hu hr => ?_⟩
   cases u <;> simp [kok] at hu
   cases hr
   exact hu
  ·rename_i i hk hi
   obtain ⟨zv, hz, h⟩ := Option.map_eq_some_iff.1 h
   cases h
   refine ⟨k, e, _, i, zv, hm, hk, hi, hz, rfl, fun w g u v hu hr => ?_⟩
   cases u <;> simp [kok] at hu
   cases hr
   trivial
  ·cases h
 ·cases h
theorem keq_ok {w : World} {g : Gh} {d : TypeDesc} {x y : AV} {cx cy : Value} {r : Bool} (h : keq x y = some r) (hx : Rel w g x cx) (hy : Rel w g y cy) (hk : IsKey d cx) : Instr.sameNow d cx cy = some r ∧ (r = true → cx = cy) := by
 cases x <;> cases y <;> simp only [keq, reduceCtorEq] at h
 ·cases hx; cases hy
  rename_i a b
  cases d <;> simp only [IsKey] at hk
  cases h
  exact ⟨rfl, fun e => by rw [beq_iff_eq.1 e]⟩
 ·cases hx; cases hy
  split at h
  ·rename_i hkk
   cases h
   cases d <;> simp only [IsKey] at hk
   subst hkk
   exact ⟨by simp [Instr.sameNow], fun e => by rw [beq_iff_eq.1 e]⟩
  ·cases h
 ·cases hx; cases hy
  cases h
  cases d <;> simp only [IsKey] at hk
  rename_i a b
  refine ⟨?_, fun e => by rw [beq_iff_eq.1 e]⟩
  simp only [Instr.sameNow, Option.some.injEq]
  rw [Bool.eq_iff_iff]
  constructor
  ·intro h
   have : (⟨a.toArray⟩ : ByteArray) = ⟨b.toArray⟩ := by simpa [bytes_beq] using h
   have : a.toArray = b.toArray := congrArg ByteArray.data this
   have : a = b := by simpa using this
   simpa using this
  ·intro h
   have : a = b := by simpa using h
   subst this
   simp [bytes_beq]
theorem kfind_ok {w : World} {g : Gh} {d : TypeDesc} {k : AV} {ck : Value} (hk : Rel w g k ck) (hkey : IsKey d ck) : ∀ (es : List (AV × AV)) (me : List MapEntry) (i : Nat) (r : Option (Nat × AV)), me.length = es.length →
  (∀ (j : Nat) u x, es[j]? = some u → me[j]? = some x → Rel w g u.1 x.key ∧ Rel w g u.2 x.val) → kfind k es i = some r →
  (r = none ∧ Instr.findNow d ck me i = some none) ∨ ∃ j u x, r = some (i + j, u.2) ∧ es[j]? = some u ∧ me[j]? = some x ∧ Instr.findNow d ck me i = some (some (i + j, x.val)) ∧ ck = x.key ∧ Rel w g u.2 x.val
 | [], me, i, r, hl, _, h => by
  obtain rfl : me = [] := List.eq_nil_of_length_eq_zero hl
  cases h
  exact .inl ⟨rfl, rfl⟩
 | u :: es, me, i, r, hl, hr, h => by
  cases me with
  | nil => simp at hl
  | cons x me =>
   obtain ⟨h1, h2⟩ := hr 0 u x rfl rfl
   unfold kfind at h
   split at h
   ·rename_i he
    cases h
    obtain ⟨e1, e2⟩ := keq_ok he hk h1 hkey
    exact .inr ⟨0, u, x, rfl, rfl, rfl, by simp [Instr.findNow, e1], e2 rfl, h2⟩
   ·rename_i he
    obtain ⟨e1, _⟩ := keq_ok he hk h1 hkey
    rcases kfind_ok hk hkey es me (i + 1) r (by simpa using hl) (fun j u x hu hx => hr (j + 1) u x (by simpa using hu) (by simpa using hx)) h with ⟨rfl, h3⟩ | ⟨j, u', x', rfl, h3, h4, h5, h6, h7⟩
    ·exact .inl ⟨rfl, by simp [Instr.findNow, e1, h3]⟩
    ·exact .inr ⟨j + 1, u', x', by rw [show i + 1 + j = i + (j + 1) from by omega], by simpa using h3, by simpa using h4, by simp only [Instr.findNow, e1]; rw [h5, show i + 1 + j = i + (j + 1) from by omega], h6, h7⟩
   ·cases h
def lookOut (ok : Bool) (z : AV) (r : Option (Nat × AV)) : AV :=
 match r, ok with
 | some (_, v), true => .tup [v, .bo true]
 | none, true => .tup [z, .bo false]
 | some (_, v), false => v
 | none, false => z
def aLook (m : Option (Option IntKind × AV)) (S : Store) (x k : AV) (ok : Bool) : Option AV :=
 match m, x with
 | some (q, z), .mp l => match S[l]? with
  | some (.map es) => if kok q k = true then (kfind k es 0).map (lookOut ok z) else none
  | _ => none
 | some (q, z), .ot (.map none) => if kok q k = true then some (lookOut ok z none) else none
 | some (q, z), .fm es => if kok q k = true then (kfind k es 0).map (lookOut ok z) else none
 | _, _ => none
theorem rel_out {w : World} {g : Gh} {v : AV} {cv : Value} (h : Rel w g v cv) (b : Bool) : Rel w g (.tup [v, .bo b]) (.tuple #[cv, .bool b]) := by
 refine .tup _ _ _ rfl fun j u v hu hv => ?_
 match j with
 | 0 => cases hu; cases hv; exact h
 | 1 => cases hu; cases hv; exact .bo _ _
 | j + 2 => simp at hu
theorem run_zero {w : World} {t : TypeId} {i : TypeInfo} {zv : Value} (hi : P.info? t = some i) (hz : i.zero = some zv) : (zeroValue t).run P w = .ok zv w := by simp [zeroValue, typeInfo, hi, hz]
theorem does_lookup {o : Oper} {e : Env} {S : Store} {v : AV} {t : TypeId} {x k : Operand} {ok : Bool} (ho : o.op = .lookup t x k ok) (h : aLook (mapOf P t) S (ev e x) (ev e k) ok = some v) : Does P o e S v S :=
 does_value fun ρ w g hw hr => by
  have hx := hr x (by rw [ho]; simp [Op.operands])
  have hk := hr k (by rw [ho]; simp [Op.operands])
  suffices H : ∃ cv, (Instr.lookup t (ρ x) (ρ k) ok).run P w = .ok cv w ∧ Rel w g v cv by
   obtain ⟨cv, h1, h2⟩ := H
   refine ⟨cv, w, g, ?_, hw, h2, Evo.refl w g⟩
   unfold execOp
   simp only [ho, Sem.run_bind, h1, Result.andThen_ok, Sem.run_pure]
  unfold aLook at h
  split at h
  ·rename_i q z l hm hxe
   obtain ⟨kt, et, d, i, zv, hmt, hkd, hi, hz, rfl, hkey⟩ := mapOf_spec hm
   rw [hxe] at hx
   generalize ρ x = cx at hx
   cases hx
   split at h
   ·rename_i es hS
    obtain ⟨hb, hown, hG, me, clock, hheap, hsz, hlt, hnd, hrel⟩ := hw.obj l _ hS
    split at h
    ·rename_i hkok
     obtain ⟨r, hf, rfl⟩ := Option.map_eq_some_iff.1 h
     have hik := hkey w g _ _ hkok hk
     have hck : ∀ b, (Instr.checkKey b 10000 kt (ρ k)).run P w = .ok () w := fun b => run_checkKey (P := P) (w := w) hkd hik b 9999
     rcases kfind_ok hk hik es me.toList 0 r (by simpa using hsz) (fun j u x hu hx => hrel j u x hu (by simpa using hx)) hf with ⟨rfl, h3⟩ | ⟨j, u, x', rfl, h3, h4, h5, h6, h7⟩
     ·have hfk := run_findKey (P := P) (w := w) hkd h3
      cases ok with
      | true => exact ⟨_, by simp [Instr.lookup, run_underlying hmt, Go.MapKept.run_getObj_map hheap, hck, hfk, run_zero hi hz], rel_out (cst_ok w g zv) false⟩
      | false => exact ⟨_, by simp [Instr.lookup, run_underlying hmt, Go.MapKept.run_getObj_map hheap, hck, hfk, run_zero hi hz], cst_ok w g zv⟩
     ·have hfk := run_findKey (P := P) (w := w) hkd h5
      cases ok with
      | true => exact ⟨_, by simp [Instr.lookup, run_underlying hmt, Go.MapKept.run_getObj_map hheap, hck, hfk], rel_out h7 true⟩
      | false => exact ⟨_, by simp [Instr.lookup, run_underlying hmt, Go.MapKept.run_getObj_map hheap, hck, hfk], h7⟩
    ·cases h
   ·cases h
  ·rename_i q z hm hxe
   obtain ⟨kt, et, d, i, zv, hmt, hkd, hi, hz, rfl, hkey⟩ := mapOf_spec hm
   rw [hxe] at hx
   generalize ρ x = cx at hx
   cases hx
   split at h
   ·rename_i hkok
    cases h
    have hik := hkey w g _ _ hkok hk
    have hck : ∀ b, (Instr.checkKey b 10000 kt (ρ k)).run P w = .ok () w := fun b => run_checkKey (P := P) (w := w) hkd hik b 9999
    have hfk : (Instr.findKey kt (ρ k) []).run P w = .ok none w := run_findKey (P := P) (w := w) hkd rfl
    cases ok with
    | true => exact ⟨_, by simp [Instr.lookup, run_underlying hmt, hck, hfk, run_zero hi hz], rel_out (cst_ok w g zv) false⟩
    | false => exact ⟨_, by simp [Instr.lookup, run_underlying hmt, hck, hfk, run_zero hi hz], cst_ok w g zv⟩
   ·cases h
  ·rename_i q z es hm hxe
   obtain ⟨kt, et, d, i, zv, hmt, hkd, hi, hz, rfl, hkey⟩ := mapOf_spec hm
   rw [hxe] at hx
   generalize ρ x = cx at hx
   cases hx with
   | fm _ _ b me clock hG hheap hsz hkr hvr =>
    split at h
    ·rename_i hkok
     obtain ⟨r, hf, rfl⟩ := Option.map_eq_some_iff.1 h
     have hik := hkey w g _ _ hkok hk
     have hck : ∀ b, (Instr.checkKey b 10000 kt (ρ k)).run P w = .ok () w := fun b => run_checkKey (P := P) (w := w) hkd hik b 9999
     rcases kfind_ok hk hik es me.toList 0 r (by simpa using hsz) (fun j u x hu hx => ⟨(hkr j u x hu (by simpa using hx)).ofNoid, (hvr j u x hu (by simpa using hx)).ofNoid⟩) hf with ⟨rfl, h3⟩ | ⟨j, u, x', rfl, h3, h4, h5, h6, h7⟩
     ·have hfk := run_findKey (P := P) (w := w) hkd h3
      cases ok with
      | true => exact ⟨_, by simp [Instr.lookup, run_underlying hmt, Go.MapKept.run_getObj_map hheap, hck, hfk, run_zero hi hz], rel_out (cst_ok w g zv) false⟩
      | false => exact ⟨_, by simp [Instr.lookup, run_underlying hmt, Go.MapKept.run_getObj_map hheap, hck, hfk, run_zero hi hz], cst_ok w g zv⟩
     ·have hfk := run_findKey (P := P) (w := w) hkd h5
      cases ok with
      | true => exact ⟨_, by simp [Instr.lookup, run_underlying hmt, Go.MapKept.run_getObj_map hheap, hck, hfk], rel_out h7 true⟩
      | false => exact ⟨_, by simp [Instr.lookup, run_underlying hmt, Go.MapKept.run_getObj_map hheap, hck, hfk], h7⟩
    ·cases h
  ·cases h
def aMk (r : Option AV) : Bool := match r with
 | none => true
 | some (.it _ _) => true
 | _ => false
theorem does_makeMap {o : Oper} {e : Env} {S : Store} {t : TypeId} {r : Option Operand} (ho : o.op = .makeMap t r) (hm : (mapOf P t).isSome = true) (h : aMk (r.map (ev e)) = true) : Does P o e S (.mp S.length) (S ++ [.map []]) :=
 does_value fun ρ w g hw hr => by
  obtain ⟨⟨q, z⟩, hm⟩ := Option.isSome_iff_exists.1 hm
  obtain ⟨kt, et, d, i, zv, hmt, hkd, hi, hz, rfl, hkey⟩ := mapOf_spec hm
  have hrun : (Instr.makeMap t (r.map ρ)).run P w = .ok (.map (some w.heap.size)) (w.alloc (.map #[] 0)) := by
   cases r with
   | none => exact run_makeMap t w
   | some x =>
    have hx := hr x (by rw [ho]; simp [Op.operands])
    have : ∃ k n, ev e x = .it k n := by
     simp only [Option.map_some] at h
     generalize ev e x = u at h
     cases u <;> first | exact ⟨_, _, rfl⟩ | cases h
    obtain ⟨k, n, hxe⟩ := this
    rw [hxe] at hx
    simp only [Option.map_some]
    generalize ρ x = cx at hx
    cases hx
    simp [Instr.makeMap, run_underlying hmt, asInt, asIntOf, newObj, Result.andThen]
    rfl
  have hn := hw.nid
  obtain ⟨h1, h2⟩ := hw.alloc_push (.map #[] 0) false 0 0 0 (o := .map []) (by
   refine ⟨by simp [Gh.push], by simp [Gh.push], by simp [Gh.push], #[], 0, ?_, rfl, by simp, by simp, by simp⟩
   simp only [Gh.push, if_true]
   exact heap_alloc_new w _)
  refine ⟨.map (some w.heap.size), _, _, ?_, h1, ?_, h2⟩
  ·unfold execOp
   simp only [ho, Sem.run_bind, hrun, Result.andThen_ok, Sem.run_pure]
  ·have := Rel.mp (w := w.alloc (.map #[] 0)) (g.push w.heap.size false 0 0 0) S.length (by simp only [Gh.push]; omega) (by simp [Gh.push, hn])
   have e : (g.push w.heap.size false 0 0 0).pl S.length = w.heap.size := by simp [Gh.push, hn]
   rw [e] at this
   exact this
def aMapSet (m : Option (Option IntKind × AV)) (S : Store) (x k v : AV) : Option Store :=
 match m, x with
 | some (q, _), .mp l => match S[l]? with
  | some (.map es) => if kok q k = true then match kfind k es 0 with
    | some (some (i, _)) => some (S.set l (.map (es.set i (k, v))))
    | some none => some (S.set l (.map (es ++ [(k, v)])))
    | none => none
   else none
  | _ => none
 | _, _ => none
theorem heap_setObj {w : World} {b r : Nat} {ob : Obj} (h : b ≠ r) : ({ w with heap := w.heap.setIfInBounds r ob } : World).heap[b]? = w.heap[b]? := by
 simp [Ne.symm h]
theorem Le.setObj {w : World} {g : Gh} {r : Nat} (h0 : g.G r = 0) (ob : Obj) : Le w g { w with heap := w.heap.setIfInBounds r ob } g := by
 refine ⟨fun b' o v hb hv => ?_, fun _ _ _ h _ => h, Nat.le_refl _, fun _ _ => ⟨rfl, .inl ⟨rfl, rfl, rfl⟩⟩, fun b' me c hg hm => ⟨hg, (heap_setObj (fun e => by subst e; omega)).trans hm⟩⟩
 have hne : b' ≠ r := fun e => by subst e; omega
 rw [World.cell?_of_block (w := w) (heap_setObj hne)]
 exact hv
theorem WF.put {w : World} {g : Gh} {S : Store} {l : Nat} {o : SObj} {ob : Obj} (hw : WF w g S) (hl : l < S.length) (hown : g.own l (g.pl l)) (hG : g.G (g.pl l) = 0)
  (hobj : ObjOk { w with heap := w.heap.setIfInBounds (g.pl l) ob } g l o) : WF { w with heap := w.heap.setIfInBounds (g.pl l) ob } g (S.set l o) ∧ Evo w g { w with heap := w.heap.setIfInBounds (g.pl l) ob } g := by
 have hn := hw.nid
 have hle := Le.setObj (w := w) hG ob
 refine ⟨hw.touch hl hle rfl (fun _ _ _ => ⟨rfl, rfl, rfl, rfl, rfl⟩) (fun b hb => .inl hb) (by simp) (fun _ _ _ => rfl) (fun b _ hno => heap_setObj fun e => hno (by rw [e]; exact hown)) hobj,
  ⟨hle, rfl, rfl, rfl, by simp, fun b _ hno => heap_setObj fun e => hno l (by omega) (by rw [e]; exact hown), fun _ _ hk hb _ => ⟨hk, hb⟩, fun _ _ _ => rfl⟩⟩
theorem does_mapSet {o : Oper} {e : Env} {S S' : Store} {t : TypeId} {x k v : Operand} (ho : o.op = .mapUpdate t x k v ∨ o.op = .insert t x k v) (h : aMapSet (mapOf P t) S (ev e x) (ev e k) (ev e v) = some S') : Does P o e S .junk S' :=
 does_skip fun ρ w g hw hr => by
  have hmem : x ∈ o.op.operands.toList ∧ k ∈ o.op.operands.toList ∧ v ∈ o.op.operands.toList := by rcases ho with ho | ho <;> rw [ho] <;> simp [Op.operands]
  have hx := hr x hmem.1
  have hk := hr k hmem.2.1
  have hv := hr v hmem.2.2
  suffices H : ∃ w' g', (Instr.mapUpdate t (ρ x) (ρ k) (ρ v)).run P w = .ok () w' ∧ WF w' g' S' ∧ Evo w g w' g' by
   obtain ⟨w', g', h1, h2, h3⟩ := H
   refine ⟨w', g', ?_, h2, h3⟩
   unfold execOp
   rcases ho with ho | ho <;> simp only [ho, Sem.run_bind, h1, Result.andThen_ok, Sem.run_pure] <;> rfl
  unfold aMapSet at h
  split at h
  ·rename_i q z l hm hxe
   obtain ⟨kt, et, d, i, zv, hmt, hkd, hi, hz, rfl, hkey⟩ := mapOf_spec hm
   rw [hxe] at hx
   generalize ρ x = cx at hx
   cases hx
   split at h
   ·rename_i es hS
    have hl := (List.getElem?_eq_some_iff.1 hS).1
    obtain ⟨hb, hown, hG, me, clock, hheap, hsz, hlt, hnd, hrel⟩ := hw.obj l _ hS
    have hplt : g.pl l < w.heap.size := (Array.getElem?_eq_some_iff.1 hheap).1
    split at h
    ·rename_i hkok
     have hik := hkey w g _ _ hkok hk
     have hck : (Instr.checkKey false 10000 kt (ρ k)).run P w = .ok () w := run_checkKey (P := P) (w := w) hkd hik false 9999
     split at h
     ·rename_i i' v' hf
      cases h
      rcases kfind_ok hk hik es me.toList 0 _ (by simpa using hsz) (fun j u x hu hx => hrel j u x hu (by simpa using hx)) hf with ⟨h3, _⟩ | ⟨j, u, x', h2, h3, h4, h5, h6, h7⟩
      ·cases h3
      cases h2
      rw [Nat.zero_add] at h5 ⊢
      have h4 : me[j]? = some x' := by simpa using h4
      have hfk := run_findKey (P := P) (w := w) hkd h5
      have hst := run_keyThatStays (P := P) (w := w) hik
      have hjs : j < me.size := (Array.getElem?_eq_some_iff.1 h4).1
      obtain ⟨q1, q2⟩ := hw.put (o := .map (es.set j (ev e k, ev e v))) (ob := .map (me.modify j fun e => { e with key := ρ k, val := ρ v }) clock) hl hown hG (by
       have hle := Le.setObj (w := w) hG (.map (me.modify j fun e => { e with key := ρ k, val := ρ v }) clock)
       refine ⟨hb, hown, hG, me.modify j fun e => { e with key := ρ k, val := ρ v }, clock, by simp [hplt], by simp [hsz], ?_, ?_, ?_⟩
       ·intro y hy
        obtain ⟨j', hj'⟩ := List.mem_iff_getElem?.1 hy
        have hj' : (me.modify j fun e => { e with key := ρ k, val := ρ v })[j']? = some y := by rw [← Array.getElem?_toList]; exact hj'
        rw [Array.getElem?_modify] at hj'
        split at hj'
        ·obtain ⟨y', h8, rfl⟩ := Option.map_eq_some_iff.1 hj'
         exact hlt y' (by rw [Array.mem_toList_iff]; exact Array.mem_of_getElem? h8)
        ·exact hlt y (by rw [Array.mem_toList_iff]; exact Array.mem_of_getElem? hj')
       ·have : (me.modify j fun e => { e with key := ρ k, val := ρ v }).toList.map (·.born) = me.toList.map (·.born) := by
         refine List.ext_getElem? fun j' => ?_
         rw [List.getElem?_map, List.getElem?_map]
         have : (me.modify j fun e => { e with key := ρ k, val := ρ v }).toList[j']? = (me.modify j fun e => { e with key := ρ k, val := ρ v })[j']? := Array.getElem?_toList
         rw [this, Array.getElem?_modify]
         split
         ·simp [Option.map_map, Function.comp_def]
         ·simp
        rw [this]; exact hnd
       ·intro j' u' y hu hy
        rw [Array.getElem?_modify] at hy
        split at hy
        ·rename_i hjj
         subst hjj
         rw [h4] at hy
         cases hy
         rw [List.getElem?_set_self (by omega)] at hu
         cases hu
         exact ⟨hk.le hle, hv.le hle⟩
        ·rename_i hjj
         rw [List.getElem?_set_ne hjj] at hu
         exact ⟨(hrel j' u' y hu hy).1.le hle, (hrel j' u' y hu hy).2.le hle⟩)
      refine ⟨_, g, ?_, q1, q2⟩
      have e5 : ((me[j]?).map (·.key)).getD (ρ k) = ρ k := by rw [h4]; exact h6.symm
      simp only [Instr.mapUpdate, Sem.run_bind, run_underlying hmt, Result.andThen_ok, Go.MapKept.run_getObj_map hheap, hck, hfk, e5, hst, Go.MapKept.run_setObj_map _ hheap]
     ·rename_i hf
      cases h
      rcases kfind_ok hk hik es me.toList 0 _ (by simpa using hsz) (fun j u x hu hx => hrel j u x hu (by simpa using hx)) hf with ⟨_, h5⟩ | ⟨j, u, x', h2, _⟩
      ·have hfk := run_findKey (P := P) (w := w) hkd h5
       obtain ⟨q1, q2⟩ := hw.put (o := .map (es ++ [(ev e k, ev e v)])) (ob := .map (me.push { key := ρ k, val := ρ v, born := clock }) (clock + 1)) hl hown hG (by
        have hle := Le.setObj (w := w) hG (.map (me.push { key := ρ k, val := ρ v, born := clock }) (clock + 1))
        refine ⟨hb, hown, hG, me.push { key := ρ k, val := ρ v, born := clock }, clock + 1, by simp [hplt], by simp [hsz], ?_, ?_, ?_⟩
        ·intro y hy
         simp only [Array.toList_push, List.mem_append, List.mem_singleton] at hy
         rcases hy with hy | rfl
         ·exact Nat.lt_succ_of_lt (hlt y hy)
         ·exact Nat.lt_succ_self _
        ·rw [Array.toList_push, List.map_append, List.nodup_append]
         refine ⟨hnd, by simp, fun a ha b hb hab => ?_⟩
         obtain ⟨y, hy, rfl⟩ := List.mem_map.1 ha
         simp only [List.map_cons, List.map_nil, List.mem_singleton] at hb
         have := hlt y hy
         omega
        ·intro j u y hu hy
         rw [Array.getElem?_push] at hy
         split at hy
         ·rename_i hj
          cases hy
          rw [hj, hsz, List.getElem?_append_right (Nat.le_refl _), Nat.sub_self] at hu
          cases hu
          exact ⟨hk.le hle, hv.le hle⟩
         ·have hj : j < es.length := by have := (Array.getElem?_eq_some_iff.1 hy).1; omega
          rw [List.getElem?_append_left hj] at hu
          exact ⟨(hrel j u y hu hy).1.le hle, (hrel j u y hu hy).2.le hle⟩)
       refine ⟨_, g, ?_, q1, q2⟩
       simp only [Instr.mapUpdate, Sem.run_bind, run_underlying hmt, Result.andThen_ok, Go.MapKept.run_getObj_map hheap, hck, hfk, Go.MapKept.run_setObj_map _ hheap]
      ·cases h2
     ·cases h
    ·cases h
   ·cases h
  ·cases h
def aRange (kd : Kd) (S : Store) (x : AV) : Option (AV × Store) :=
 match kd, x with
 | .str, .st l => some (.ptr S.length 0, S ++ [.siter l 0])
 | _, _ => none
theorem does_range {o : Oper} {e : Env} {S S' : Store} {v : AV} {t : TypeId} {x : Operand} (ho : o.op = .range t x) (h : aRange (kdOf P t) S (ev e x) = some (v, S')) : Does P o e S v S' :=
 does_value fun ρ w g hw hr => by
  have hx := hr x (by rw [ho]; simp [Op.operands])
  unfold aRange at h
  split at h
  ·rename_i l hkd hxe
   cases h
   rw [hxe] at hx
   generalize hcx : ρ x = cx at hx
   cases hx
   have hn := hw.nid
   obtain ⟨h1, h2⟩ := hw.alloc_push (.stringIter ⟨l.toArray⟩ 0) false 0 0 0 (o := .siter l 0) (by
    refine ⟨by simp [Gh.push], by simp [Gh.push], by simp [Gh.push], ?_⟩
    simp only [Gh.push, if_true]
    exact heap_alloc_new w _)
   refine ⟨.pointer (some ⟨w.heap.size, 0, none⟩), _, _, ?_, h1, ?_, h2⟩
   ·unfold execOp
    simp only [ho, hcx, Instr.range, Sem.run_bind, run_underlying (kd_str hkd), Result.andThen_ok, Sem.run_pure, newObj, Sem.run]
    rfl
   ·have := Rel.ptr (w := w.alloc (.stringIter ⟨l.toArray⟩ 0)) (g.push w.heap.size false 0 0 0) S.length 0 (by simp only [Gh.push]; omega) (by simp [Gh.push, hn])
    have e : (g.push w.heap.size false 0 0 0).pl S.length = w.heap.size := by simp [Gh.push, hn]
    rw [e] at this
    exact this
  ·cases h
def runeAt (l : List UInt8) (pos : Nat) : Nat × Nat := Utf8.decode ⟨l.toArray⟩ pos
def aNext (S : Store) (x : AV) (isS : Bool) : Option (AV × Store) :=
 match x, isS with
 | .ptr l 0, true => match S[l]? with
  | some (.siter s pos) => if pos < s.length then some (.tup [.bo true, .it .i64 pos, .it .i32 ((runeAt s pos).1 : Int)], S.set l (.siter s (pos + (runeAt s pos).2))) else some (.tup [.bo false], S)
  | _ => none
 | _, _ => none
theorem does_next {o : Oper} {e : Env} {S S' : Store} {v : AV} {x : Operand} {isS : Bool} (ho : o.op = .next x isS) (h : aNext S (ev e x) isS = some (v, S')) : Does P o e S v S' :=
 does_value fun ρ w g hw hr => by
  have hx := hr x (by rw [ho]; simp [Op.operands])
  unfold aNext at h
  split at h
  ·rename_i l hxe
   rw [hxe] at hx
   generalize hcx : ρ x = cx at hx
   cases hx
   split at h
   ·rename_i s pos hS
    have hl := (List.getElem?_eq_some_iff.1 hS).1
    obtain ⟨hb, hown, hG, hheap⟩ := hw.obj l _ hS
    have hplt : g.pl l < w.heap.size := (Array.getElem?_eq_some_iff.1 hheap).1
    have hget : (getObj (g.pl l)).run P w = .ok (.stringIter ⟨s.toArray⟩ pos) w := by simp [getObj, Sem.run, hheap]
    have hsz : (⟨s.toArray⟩ : ByteArray).size = s.length := by simp [ByteArray.size]
    split at h
    ·rename_i hlt
     cases h
     obtain ⟨q1, q2⟩ := hw.put (o := .siter s (pos + (runeAt s pos).2)) (ob := .stringIter ⟨s.toArray⟩ (pos + (runeAt s pos).2)) hl hown hG (by
      refine ⟨hb, hown, hG, by simp [hplt]⟩)
     refine ⟨.tuple #[.bool true, .int .i64 pos, .int .i32 ((runeAt s pos).1 : Int)], _, g, ?_, q1, ?_, q2⟩
     ·have hset : ∀ ob, (setObj (g.pl l) ob).run P w = .ok () { w with heap := w.heap.setIfInBounds (g.pl l) ob } := fun ob => by simp [setObj, Sem.run, hheap]
      have hrun : ∀ ty, (Instr.next (.pointer (some ⟨g.pl l, 0, none⟩)) true ty).run P w = .ok (.tuple #[.bool true, .int .i64 pos, .int .i32 ((runeAt s pos).1 : Int)]) { w with heap := w.heap.setIfInBounds (g.pl l) (.stringIter ⟨s.toArray⟩ (pos + (runeAt s pos).2)) } := fun ty => by
       simp only [Instr.next, Sem.run_bind, hget, Result.andThen_ok, hsz, hlt, if_true]
       simp only [runeAt, hset, Sem.run_bind, Result.andThen_ok, Sem.run_pure, goInt]
      unfold execOp
      simp only [ho, hcx, Sem.run_bind, hrun, Result.andThen_ok, Sem.run_pure]
     ·refine .tup _ _ _ rfl fun j u v hu hv => ?_
      match j with
      | 0 => cases hu; cases hv; exact .bo _ _
      | 1 => cases hu; cases hv; exact .it _ _ _
      | 2 => cases hu; cases hv; exact .it _ _ _
      | j + 3 => simp at hu
    ·rename_i hlt
     cases h
     refine ⟨.tuple #[.bool false], w, g, ?_, hw, ?_, Evo.refl w g⟩
     ·have hrun : ∀ ty, (Instr.next (.pointer (some ⟨g.pl l, 0, none⟩)) true ty).run P w = .ok (.tuple #[.bool false]) w := fun ty => by
       simp only [Instr.next, Sem.run_bind, hget, Result.andThen_ok, hsz, hlt, if_false, Sem.run_pure]
      unfold execOp
      simp only [ho, hcx, Sem.run_bind, hrun, Result.andThen_ok, Sem.run_pure]
     ·refine .tup _ _ _ rfl fun j u v hu hv => ?_
      match j with
      | 0 => cases hu; cases hv; exact .bo _ _
      | j + 1 => simp at hu
   ·cases h
  ·cases h
end
end Go.Proofs.YtlefikdjhnaapaaGreatDoor.Pe
namespace Go.Proofs.YtlefikdjhnaapaaGreatDoor.Pe
open Go Go.RowKit
variable [Tab]
inductive Cls where
 | free | read | fresh | write
def clsOf (P : Program) (pf rf : List FuncId) : Op → Cls
 | .load .. => .read
 | .lookup .. => .read
 | .alloc _ => .fresh
 | .box .. => .fresh
 | .makeMap .. => .fresh
 | .convert _ d _ => match kdOf P d with
  | .bytes => .write
  | _ => .free
 | .call c => match c.callee with
  | .value (.func f) => if pf.contains f then .free else if rf.contains f then .read else .write
  | .value (.tmp t) => if pf.contains (t + 1000000) then .free else if rf.contains (t + 1000000) then .read else .write
  | .builtin .len => .free
  | .builtin .min => .free
  | .builtin .max => .free
  | _ => .write
 | .move _ => .free
 | .assign _ => .free
 | .pick .. => .free
 | .buildSlice .. => .free
 | .build .. => .free
 | .nilCheck _ => .free
 | .binOp .. => .free
 | .unOp .. => .free
 | .makeFunc .. => .free
 | .slice .. => .free
 | .fieldAddr .. => .free
 | .field .. => .free
 | .indexAddr .. => .free
 | .index .. => .free
 | .extract .. => .free
 | _ => .write
def indep (cls : Op → Cls) (ops : Array Oper) (x y : Oper) : Bool :=
 x.apart ops y && (match cls x.op, cls y.op with
  | .free, _ => true
  | _, .free => true
  | .read, .read => true
  | .read, .fresh => true
  | _, _ => false)
def freeC (cls : Op → Cls) (md : Region.Mode) (ops : Array Oper) (listed : Array Bool) (k : Nat) : Bool :=
 match ops[k]? with
 | none => false
 | some ok => (List.range ops.size).all fun j =>
  match ops[j]? with
  | none => true
  | some oj => j == k || listed.getD j true || oj.after.any (fun e => Region.binds md e && e.on == k) || indep cls ops ok oj
def lexC (cls : Op → Cls) (md : Region.Mode) (ops : Array Oper) : Nat → Nat → Array Bool → Bool
 | 0, _, listed => (Region.ready md ops listed).isEmpty
 | fuel + 1, k, listed => (Region.ready md ops listed).contains k && freeC cls md ops listed k && lexC cls md ops fuel (k + 1) (listed.setIfInBounds k true)
def lexOk (cls : Op → Cls) (ops : Array Oper) : Bool := lexC cls .any ops ops.size 0 (Array.replicate ops.size false)
theorem freeC_spec {cls : Op → Cls} {md : Region.Mode} {ops : Array Oper} {listed : Array Bool} {k : Nat} {ok : Oper} (hk : ops[k]? = some ok) (h : freeC cls md ops listed k = true) :
  ∀ (j : Nat) oj, ops[j]? = some oj → j ≠ k → listed.getD j true = false → (∀ e ∈ oj.after, Region.binds md e = true → e.on ≠ k) → indep cls ops ok oj = true := by
 intro j oj hj hne hun hno
 unfold freeC at h
 rw [hk] at h
 simp only at h
 have hlt : j < ops.size := (Array.getElem?_eq_some_iff.1 hj).1
 have h1 := (List.all_eq_true.1 h) j (List.mem_range.2 hlt)
 rw [hj] at h1
 simp only [Bool.or_eq_true, beq_iff_eq] at h1
 rcases h1 with ((h1 | h1) | h1) | h1
 ·exact absurd h1 hne
 ·rw [hun] at h1; cases h1
 ·rw [Array.any_eq_true'] at h1
  obtain ⟨e, he, h2⟩ := h1
  simp only [Bool.and_eq_true, beq_iff_eq] at h2
  exact absurd h2.2 (hno e he h2.1)
 ·exact h1
def XStep (P : Program) (c : Cls) (o : Oper) (e : Env) (S : Store) (v : AV) (S' : Store) : Prop :=
 match c with
 | .free => S' = S ∧ ∀ T, Does P o e T v T
 | .read => S' = S ∧ ∀ R, Does P o e (S ++ R) v (S ++ R)
 | .fresh => (∃ R, S' = S ++ R) ∧ Does P o e S v S'
 | .write => Does P o e S v S'
theorem XStep.does {P : Program} {c : Cls} {o : Oper} {e : Env} {S S' : Store} {v : AV} (h : XStep P c o e S v S') : Does P o e S v S' := by
 cases c
 ·obtain ⟨rfl, h⟩ := h; exact h _
 ·obtain ⟨rfl, h⟩ := h; have := h []; simpa using this
 ·exact h.2
 ·exact h
def aYield (ops : Array Oper) (e : Env) (j : Nat) : Option (Option Bool) :=
 match (ops[j]?).bind (·.dst) with
 | none => some none
 | some d => match e d with
  | .bo b => some (some b)
  | .tup [] => some none
  | _ => none
def aWant (ops : Array Oper) (o : Oper) (e : Env) : Option Bool :=
 match o.guard with
 | none => some true
 | some (j, want) => (aYield ops e j).map (· == some want)
theorem aWant_ok {ops : Array Oper} {o : Oper} {e : Env} {a : Act} {w : World} {g : Gh} (h : ERel w g e a) {b : Bool} (hb : aWant ops o e = some b) : Region.wanted o (yielded ops a.tmps) = b := by
 unfold aWant at hb
 unfold Region.wanted
 split at hb
 ·rename_i hg
  cases hb
  rw [hg]
 ·rename_i j want hg
  obtain ⟨y, hy, rfl⟩ := Option.map_eq_some_iff.1 hb
  rw [hg]
  simp only
  have : yielded ops a.tmps j = y := by
   unfold aYield at hy
   unfold yielded
   split at hy
   ·rename_i hd
    cases hy
    rw [hd]
    rfl
   ·rename_i d hd
    rw [hd]
    have hr := h d
    split at hy
    ·rename_i b' hb'
     cases hy
     rw [hb'] at hr
     simp only [Option.bind_some]
     cases ht : a.tmps[d]? with
     | none =>
      rw [Array.getD_eq_getD_getElem?, ht] at hr
      cases hr
     | some z =>
      rw [Array.getD_eq_getD_getElem?, ht] at hr
      simp only [Option.getD_some] at hr
      cases hr
      rfl
    ·rename_i hb'
     cases hy
     rw [hb'] at hr
     simp only [Option.bind_some]
     cases ht : a.tmps[d]? with
     | none => rfl
     | some z =>
      rw [Array.getD_eq_getD_getElem?, ht] at hr
      simp only [Option.getD_some] at hr
      cases hr
      rfl
    ·cases hy
  rw [this]
structure EvD (w0 : World) (g0 : Gh) (w : World) (g : Gh) (D : List Deferred) : Prop extends Evo w0 g0 w g where
 defs : ∀ d ∈ D, ∃ b, d.target = .collected b ∧ w0.heap.size ≤ b ∧ b < w.heap.size ∧ w.heap[b]? = some (.deferred (some [])) ∧ ∀ l, l < g.nid → ¬ g.own l b
 nodup : (D.map (·.target)).Nodup
theorem EvD.trans {w0 w w' : World} {g0 g g' : Gh} {D : List Deferred} (h : EvD w0 g0 w g D) (h' : Evo w g w' g') : EvD w0 g0 w' g' D :=
 ⟨h.toEvo.trans h', fun d hd => by
  obtain ⟨b, h1, h2, h3, h4, h5⟩ := h.defs d hd
  exact ⟨b, h1, h2, Nat.lt_of_lt_of_le h3 h'.size, by rw [h'.old b h3 h5]; exact h4, fun l hl ho => h5 l (h'.own l b hl ho h3).1 (h'.own l b hl ho h3).2⟩, h.nodup⟩
theorem EvD.none {w0 w : World} {g0 g : Gh} (h : Evo w0 g0 w g) : EvD w0 g0 w g [] := ⟨h, fun d hd => (by cases hd), List.nodup_nil⟩
theorem put_defers (a : Act) (d : Option Nat) (v : Value) : (a.put d v).defers = a.defers := by cases d <;> rfl
def Conc (N : Nat) (w0 : World) (g0 : Gh) (e : Env) (S : Store) (a : Act) (w : World) : Prop :=
 a.tmps.size = N ∧ True ∧ ∃ g, WF w g S ∧ ERel w g e a ∧ EvD w0 g0 w g a.defers
section
variable {P : Program} {N : Nat} {w0 : World} {g0 : Gh}
theorem ERel.put {w : World} {g : Gh} {e : Env} {a : Act} (h : ERel w g e a) {d : Option Nat} (hd : ∀ x, d = some x → x < a.tmps.size) {v : AV} {cv : Value} (hv : Rel w g v cv) : ERel w g (Pe.put e d v) (a.put d cv) := by
 cases d with
 | none => exact h
 | some x =>
  intro t
  show Rel w g (upd e x v t) _
  simp only [Act.put]
  by_cases ht : t = x
  ·subst ht
   rw [upd_same]
   have hx := hd t rfl
   rw [Array.getD_eq_getD_getElem?, Array.getElem?_setIfInBounds_self_of_lt hx]
   exact hv
  ·rw [upd_ne e ht, Array.getD_eq_getD_getElem?, Array.getElem?_setIfInBounds_ne (fun e => ht e.symm), ← Array.getD_eq_getD_getElem?]
   exact h t
theorem Conc.does {o : Oper} {e : Env} {S S' : Store} {v : AV} {a : Act} {w : World} (hc : Conc N w0 g0 e S a w) (hd : ∀ d, o.dst = some d → d < N) (h : Does P o e S v S') {K : Act → World → Prop} {Q : Exit → Act → World → Prop}
  (hK : ∀ a' w', Conc N w0 g0 (Pe.put e o.dst v) S' a' w' → K a' w') : wq P o a w K Q := by
 obtain ⟨h1, h2, g, h3, h4, h5⟩ := hc
 refine h a w g h3 (fun x _ => ev_ok h4 x) K Q fun cv w' g' hw hr he => hK _ _ ⟨?_, trivial, g', hw, ?_, by rw [put_defers]; exact h5.trans he⟩
 ·cases ho : o.dst <;> simp [Act.put, h1]
 ·exact ERel.put (fun t => (h4 t).le he.toLe) (fun x hx => by rw [h1]; exact hd x hx) hr
theorem Conc.skip {o : Oper} {e : Env} {S : Store} {a : Act} {w : World} (hc : Conc N w0 g0 e S a w) (hd : ∀ d, o.dst = some d → d < N) : Conc N w0 g0 (Pe.put e o.dst (.tup [])) S (a.put o.dst undef) w := by
 obtain ⟨h1, h2, g, h3, h4, h5⟩ := hc
 refine ⟨?_, trivial, g, h3, h4.put (fun x hx => by rw [h1]; exact hd x hx) (.tup g [] #[] rfl (by simp)), by rw [put_defers]; exact h5⟩
 cases ho : o.dst <;> simp [Act.put, h1]
def xOp (P : Program) (cls : Op → Cls) (ops : Array Oper) (i : Nat) (K : Env → Store → Prop) (e : Env) (S : Store) : Prop :=
 match ops[i]? with
 | none => K e S
 | some o => match aWant ops o e with
  | some true => ∃ v S', XStep P (cls o.op) o e S v S' ∧ K (Pe.put e o.dst v) S'
  | some false => K (Pe.put e o.dst (.tup [])) S
  | none => False
theorem xOp_mono {cls : Op → Cls} {ops : Array Oper} {i : Nat} {K K' : Env → Store → Prop} {e : Env} {S : Store} (h : ∀ e S, K e S → K' e S) (hh : xOp P cls ops i K e S) : xOp P cls ops i K' e S := by
 unfold xOp at *
 split
 ·rename_i ho; simp only [ho] at hh; exact h _ _ hh
 ·rename_i o ho
  simp only [ho] at hh
  split
  ·rename_i hw; simp only [hw] at hh; obtain ⟨v, S', h1, h2⟩ := hh; exact ⟨v, S', h1, h _ _ h2⟩
  ·rename_i hw; simp only [hw] at hh; exact h _ _ hh
  ·rename_i hw; simp only [hw] at hh
def wpX (P : Program) (cls : Op → Cls) (md : Region.Mode) (ops : Array Oper) (Q : Env → Store → Prop) : Nat → Array Bool → Env → Store → Prop
 | 0, listed, e, S => Region.ready md ops listed = [] ∧ Q e S
 | fuel + 1, listed, e, S =>
  (Region.ready md ops listed = [] → Q e S) ∧
  ∀ i ∈ Region.ready md ops listed, xOp P cls ops i (wpX P cls md ops Q fuel (listed.setIfInBounds i true)) e S
def dstsOk (N : Nat) (ops : Array Oper) : Bool := ops.all fun o => match o.dst with
 | some d => decide (d < N)
 | none => true
theorem dstsOk_spec {ops : Array Oper} (h : dstsOk N ops = true) {i : Nat} {o : Oper} (hi : ops[i]? = some o) : ∀ d, o.dst = some d → d < N := by
 intro d hd
 have := (Array.all_eq_true_iff_forall_mem.1 h) o (Array.mem_of_getElem? hi)
 rw [hd] at this
 simpa using this
theorem wpAny_of_x (ro : Option Nat) {cls : Op → Cls} {md : Region.Mode} {ops : Array Oper} (hds : dstsOk N ops = true) {Q : Env → Store → Prop} {Q' : Exit → Act → World → Prop} (hQ : ∀ e S a w, Conc N w0 g0 e S a w → Q e S → Q' .normal a w) :
  ∀ (fuel : Nat) (listed : Array Bool) (e : Env) (S : Store) (a : Act) (w : World), Conc N w0 g0 e S a w → wpX P cls md ops Q fuel listed e S → wpAnyIn (wR ro) 0 P md ops Q' fuel listed a w
 | 0, _, e, S, a, w, hc, h => ⟨h.1, hQ e S a w hc h.2⟩
 | fuel + 1, listed, e, S, a, w, hc, h => ⟨fun h0 => hQ e S a w hc (h.1 h0), fun i hi => by
  have hx := h.2 i hi
  unfold xOp at hx
  unfold wpOpIn
  split
  ·rename_i ho; simp only [ho] at hx; exact wpAny_of_x ro hds hQ fuel _ e S a w hc hx
  ·rename_i o ho
   simp only [ho] at hx
   have hd := dstsOk_spec hds ho
   have her : ∃ g, ERel w g e a := by obtain ⟨_, _, g, _, h4, _⟩ := hc; exact ⟨g, h4⟩
   obtain ⟨g, her⟩ := her
   split at hx
   ·rename_i hw
    rw [aWant_ok her hw]
    obtain ⟨v, S', h1, h2⟩ := hx
    simp only [if_true]
    exact hc.does hd h1.does (fun a' w' hc' => wpAny_of_x ro hds hQ fuel _ _ _ a' w' hc' h2) ro
   ·rename_i hw
    rw [aWant_ok her hw]
    simp only [Bool.false_eq_true, if_false]
    exact ⟨fun _ _ => trivial, wpAny_of_x ro hds hQ fuel _ _ _ _ w (hc.skip hd) hx⟩
   ·exact hx.elim⟩
def YieldsX (P : Program) (cls : Op → Cls) (ops : Array Oper) (o : Oper) (e : Env) (S : Store) (v : AV) (S' : Store) : Prop :=
 (aWant ops o e = some true ∧ XStep P (cls o.op) o e S v S') ∨ (aWant ops o e = some false ∧ v = .tup [] ∧ S' = S)
theorem YieldsX.xOp {cls : Op → Cls} {ops : Array Oper} {i : Nat} {o : Oper} {e : Env} {S S' : Store} {v : AV} (hi : ops[i]? = some o) (hy : YieldsX P cls ops o e S v S') {K : Env → Store → Prop} (h : K (Pe.put e o.dst v) S') : xOp P cls ops i K e S := by
 unfold Pe.xOp
 simp only [hi]
 rcases hy with ⟨hw, hx⟩ | ⟨hw, rfl, rfl⟩
 ·simp only [hw]; exact ⟨v, S', hx, h⟩
 ·simp only [hw]; exact h
theorem yieldsX_of_xOp {cls : Op → Cls} {ops : Array Oper} {i : Nat} {o : Oper} {e : Env} {S : Store} {K : Env → Store → Prop} (hi : ops[i]? = some o) (h : xOp P cls ops i K e S) : ∃ v S', YieldsX P cls ops o e S v S' ∧ K (Pe.put e o.dst v) S' := by
 unfold xOp at h
 simp only [hi] at h
 split at h
 ·rename_i hw; obtain ⟨v, S', h1, h2⟩ := h; exact ⟨v, S', .inl ⟨hw, h1⟩, h2⟩
 ·rename_i hw; exact ⟨.tup [], S, .inr ⟨hw, rfl, rfl⟩, h⟩
 ·exact h.elim
theorem ev_put {e : Env} {dst : Option Nat} {v : AV} {x : Operand} (h : ∀ d, dst = some d → x ≠ .tmp d) : ev (Pe.put e dst v) x = ev e x := by
 cases dst with
 | none => rfl
 | some d =>
  cases x with
  | tmp t =>
   show upd e d v t = e t
   exact upd_ne e (fun ht => h d rfl (by rw [ht])) v
  | _ => rfl
theorem put_comm (e : Env) {x y : Option Nat} (v u : AV) (h : ∀ d, x = some d → y ≠ some d) : Pe.put (Pe.put e x v) y u = Pe.put (Pe.put e y u) x v := by
 cases x with
 | none => rfl
 | some d =>
  cases y with
  | none => rfl
  | some d' =>
   have hne : d ≠ d' := fun he => h d rfl (by rw [he])
   funext t
   show upd (upd e d v) d' u t = upd (upd e d' u) d v t
   unfold upd
   by_cases h1 : t = d
   ·subst h1
    rw [if_neg hne]
    simp
   ·by_cases h2 : t = d'
    ·subst h2; simp [h1]
    ·simp [h1, h2]
theorem Does.put {o : Oper} {e : Env} {S S' : Store} {v : AV} {ops : Array Oper} {dst : Option Nat} {u : AV} (h : ∀ d, dst = some d → d ∉ o.looksAt ops) : Does P o (Pe.put e dst u) S v S' ↔ Does P o e S v S' := by
 have key : ∀ x, x ∈ o.op.operands.toList → ev (Pe.put e dst u) x = ev e x := fun x hx => ev_put fun d hd hxd => h d hd (by
  subst hxd
  exact List.mem_append_left _ (List.mem_filterMap.2 ⟨.tmp d, hx, rfl⟩))
 constructor
 ·intro hh a w g hw hr K Q hK
  exact hh a w g hw (fun x hx => by rw [key x hx]; exact hr x hx) K Q hK
 ·intro hh a w g hw hr K Q hK
  exact hh a w g hw (fun x hx => by rw [← key x hx]; exact hr x hx) K Q hK
theorem XStep.put {c : Cls} {o : Oper} {e : Env} {S S' : Store} {v : AV} {ops : Array Oper} {dst : Option Nat} {u : AV} (h : ∀ d, dst = some d → d ∉ o.looksAt ops) : XStep P c o (Pe.put e dst u) S v S' ↔ XStep P c o e S v S' := by
 cases c
 ·exact and_congr Iff.rfl (forall_congr' fun T => Does.put h)
 ·exact and_congr Iff.rfl (forall_congr' fun T => Does.put h)
 ·exact and_congr Iff.rfl (Does.put h)
 ·exact Does.put h
theorem aWant_put {o : Oper} {e : Env} {ops : Array Oper} {dst : Option Nat} {u : AV} (h : ∀ d, dst = some d → d ∉ o.looksAt ops) : aWant ops o (Pe.put e dst u) = aWant ops o e := by
 unfold aWant
 split
 ·rfl
 ·rename_i j want hg
  congr 1
  unfold aYield
  split
  ·rfl
  ·rename_i d hd
   have : Pe.put e dst u d = e d := by
    cases dst with
    | none => rfl
    | some d' =>
     refine upd_ne e (fun he => h d' rfl ?_) u
     subst he
     refine List.mem_append_right _ ?_
     rw [hg]
     simp [hd]
   rw [this]
theorem xOp_swap {cls : Op → Cls} {ops : Array Oper} {j : Nat} {oi oj : Oper} {v : AV} {e : Env} {S Si : Store} (hj : ops[j]? = some oj) (hap : indep cls ops oi oj = true) {K : Env → Store → Prop}
  (hy : YieldsX P cls ops oi e S v Si) (h : xOp P cls ops j K (Pe.put e oi.dst v) Si) :
  xOp P cls ops j (fun e' S' => ∃ Si', YieldsX P cls ops oi e' S' v Si' ∧ K (Pe.put e' oi.dst v) Si') e S := by
 simp only [indep, Bool.and_eq_true] at hap
 obtain ⟨h1, h2, h3⟩ := Oper.apart_spec hap.1
 have hcls := hap.2
 have keep : ∀ u, aWant ops oi (Pe.put e oj.dst u) = aWant ops oi e := fun u => aWant_put h3
 unfold xOp at *
 simp only [hj] at *
 rw [aWant_put h1] at h
 split
 ·rename_i hw
  simp only [hw] at h
  obtain ⟨u, Sj, hu, hn⟩ := h
  rw [XStep.put h1] at hu
  rcases hy with ⟨hwi, hx⟩ | ⟨hwi, rfl, rfl⟩
  ·cases hci : cls oi.op with
   | free =>
    rw [hci] at hx
    obtain ⟨rfl, hx⟩ := hx
    refine ⟨u, Sj, hu, Sj, .inl ⟨by rw [keep]; exact hwi, ?_⟩, by rw [← put_comm e v u h2]; exact hn⟩
    rw [hci, XStep.put h3]
    exact ⟨rfl, hx⟩
   | read =>
    rw [hci] at hx
    obtain ⟨rfl, hx⟩ := hx
    cases hcj : cls oj.op with
    | free =>
     rw [hcj] at hu
     obtain ⟨rfl, hu⟩ := hu
     refine ⟨u, _, ⟨rfl, hu⟩, _, .inl ⟨by rw [keep]; exact hwi, ?_⟩, by rw [← put_comm e v u h2]; exact hn⟩
     rw [hci, XStep.put h3]
     exact ⟨rfl, hx⟩
    | read =>
     rw [hcj] at hu
     obtain ⟨rfl, hu⟩ := hu
     refine ⟨u, _, ⟨rfl, hu⟩, _, .inl ⟨by rw [keep]; exact hwi, ?_⟩, by rw [← put_comm e v u h2]; exact hn⟩
     rw [hci, XStep.put h3]
     exact ⟨rfl, hx⟩
    | fresh =>
     rw [hcj] at hu
     obtain ⟨⟨R, rfl⟩, hu⟩ := hu
     refine ⟨u, _, ⟨⟨R, rfl⟩, hu⟩, _, .inl ⟨by rw [keep]; exact hwi, ?_⟩, by rw [← put_comm e v u h2]; exact hn⟩
     rw [hci, XStep.put h3]
     exact ⟨rfl, fun R' => by rw [List.append_assoc]; exact hx (R ++ R')⟩
    | write => rw [hci, hcj] at hcls; cases hcls
   | fresh =>
    rw [hci] at hx
    cases hcj : cls oj.op with
    | free =>
     rw [hcj] at hu
     obtain ⟨rfl, hu⟩ := hu
     refine ⟨u, _, ⟨rfl, hu⟩, _, .inl ⟨by rw [keep]; exact hwi, ?_⟩, by rw [← put_comm e v u h2]; exact hn⟩
     rw [hci, XStep.put h3]
     exact hx
    | read => rw [hci, hcj] at hcls; cases hcls
    | fresh => rw [hci, hcj] at hcls; cases hcls
    | write => rw [hci, hcj] at hcls; cases hcls
   | write =>
    rw [hci] at hx
    cases hcj : cls oj.op with
    | free =>
     rw [hcj] at hu
     obtain ⟨rfl, hu⟩ := hu
     refine ⟨u, _, ⟨rfl, hu⟩, _, .inl ⟨by rw [keep]; exact hwi, ?_⟩, by rw [← put_comm e v u h2]; exact hn⟩
     rw [hci, XStep.put h3]
     exact hx
    | read => rw [hci, hcj] at hcls; cases hcls
    | fresh => rw [hci, hcj] at hcls; cases hcls
    | write => rw [hci, hcj] at hcls; cases hcls
  ·exact ⟨u, Sj, hu, Sj, .inr ⟨by rw [keep]; exact hwi, rfl, rfl⟩, by rw [← put_comm e _ u h2]; exact hn⟩
 ·rename_i hw
  simp only [hw] at h
  refine ⟨Si, ?_, by rw [← put_comm e v _ h2]; exact h⟩
  rcases hy with ⟨hwi, hx⟩ | ⟨hwi, rfl, rfl⟩
  ·exact .inl ⟨by rw [keep]; exact hwi, (XStep.put h3).2 hx⟩
  ·exact .inr ⟨by rw [keep]; exact hwi, rfl, rfl⟩
 ·rename_i hw
  simp only [hw] at h
theorem wpX_first {cls : Op → Cls} {md : Region.Mode} {ops : Array Oper} {Q : Env → Store → Prop} {i : Nat} {oi : Oper} {v : AV} (hi : ops[i]? = some oi) :
  ∀ (fuel : Nat) (listed : Array Bool) (e : Env) (S Si : Store),
   (∀ (j : Nat) oj, ops[j]? = some oj → j ≠ i → listed.getD j true = false → (∀ e ∈ oj.after, Region.binds md e = true → e.on ≠ i) → indep cls ops oi oj = true) →
   i ∈ Region.ready md ops listed → YieldsX P cls ops oi e S v Si →
   wpX P cls md ops Q fuel (listed.setIfInBounds i true) (Pe.put e oi.dst v) Si → wpX P cls md ops Q (fuel + 1) listed e S := by
 intro fuel
 induction fuel with
 | zero =>
  intro listed e S Si _ hr hy H
  refine ⟨fun h => (by rw [h] at hr; cases hr), fun j hj => ?_⟩
  by_cases hji : j = i
  ·subst hji; exact hy.xOp hi H
  ·have := ready_mono hj hji
   rw [H.1] at this
   cases this
 | succ fuel ih =>
  intro listed e S Si hfree hr hy H
  refine ⟨fun h => (by rw [h] at hr; cases hr), fun j hj => ?_⟩
  by_cases hji : j = i
  ·subst hji; exact hy.xOp hi H
  ·have h1 := H.2 j (ready_mono hj hji)
   obtain ⟨hjun, oj, hoj, hall⟩ := mem_ready.1 hj
   have hnot : ∀ e ∈ oj.after, Region.binds md e = true → e.on ≠ i := fun e he hb heq => by
    have h1 := hall e he hb
    have h0 := (mem_ready.1 hr).1
    rw [heq] at h1
    rcases Nat.lt_or_ge i listed.size with h' | h'
    ·simp [h'] at h0 h1; rw [h0] at h1; cases h1
    ·simp [Array.getElem?_eq_none h'] at h1
   have h2 := xOp_swap hoj (hfree j oj hoj hji hjun hnot) hy h1
   have hfree' : ∀ (k : Nat) ok, ops[k]? = some ok → k ≠ i → (listed.setIfInBounds j true).getD k true = false →
     (∀ e ∈ ok.after, Region.binds md e = true → e.on ≠ i) → indep cls ops oi ok = true := fun k ok hk hki hun hno => by
    refine hfree k ok hk hki ?_ hno
    by_cases hjk : j = k
    ·subst hjk; exact hjun
    ·rw [getD_set_ne true hjk] at hun; exact hun
   refine xOp_mono (fun e' S' h3 => ?_) h2
   obtain ⟨Si', h3, h4⟩ := h3
   refine ih (listed.setIfInBounds j true) e' S' Si' hfree' (ready_mono hr (Ne.symm hji)) h3 ?_
   rw [Array.setIfInBounds_comm _ _ hji]
   exact h4
def wpL (P : Program) (cls : Op → Cls) (ops : Array Oper) (Q : Env → Store → Prop) : List Oper → Env → Store → Prop
 | [], e, S => Q e S
 | o :: rest, e, S => match aWant ops o e with
  | some true => ∃ v S', XStep P (cls o.op) o e S v S' ∧ wpL P cls ops Q rest (Pe.put e o.dst v) S'
  | some false => wpL P cls ops Q rest (Pe.put e o.dst (.tup [])) S
  | none => False
theorem wpX_lex {cls : Op → Cls} {md : Region.Mode} {ops : Array Oper} {Q : Env → Store → Prop} : ∀ (l : List Oper) (k : Nat) (listed : Array Bool) (e : Env) (S : Store), (∀ j, l[j]? = ops[k + j]?) →
  lexC cls md ops l.length k listed = true → wpL P cls ops Q l e S → wpX P cls md ops Q l.length listed e S
 | [], _, _, _, _, _, hB, h => ⟨by simpa [lexC] using hB, h⟩
 | o :: l, k, listed, e, S, hl, hB, h => by
  have h0 : ops[k]? = some o := by simpa using (hl 0).symm
  simp only [List.length_cons, lexC, Bool.and_eq_true] at hB
  obtain ⟨⟨hr, hf⟩, hB'⟩ := hB
  have hst : xOp P cls ops k (wpL P cls ops Q l) e S := by unfold xOp; simp only [h0]; exact h
  obtain ⟨v, S', hy, hK⟩ := yieldsX_of_xOp h0 hst
  exact wpX_first h0 l.length listed e S S' (freeC_spec h0 hf) (by simpa using hr) hy
   (wpX_lex l (k + 1) _ _ _ (fun j => by have := hl (j + 1); simpa [Nat.add_assoc, Nat.add_comm 1 j] using this) hB' hK)
theorem Conc.draw {e : Env} {S : Store} {a : Act} {w : World} (h : Conc N w0 g0 e S a w) (n : Nat) : Conc N w0 g0 e S a { w with drawn := n } := by
 obtain ⟨h1, h2, g, h3, h4, h5⟩ := h
 exact ⟨h1, h2, g, h3.draw n, fun t => (h4 t).le (Evo.draw w g n).toLe, h5.trans (Evo.draw w g n)⟩
theorem region_draws {cls : Op → Cls} {ops : Array Oper} {id : Nat} {Q : Env → Store → Prop} {Q' : Exit → Act → World → Prop} {e : Env} {S : Store} {a : Act} {w : World} (hm : P.follows .mixedOrders = true) (hB : lexOk cls ops = true) (hds : dstsOk N ops = true)
  (hQ : ∀ e S a w, Conc N w0 g0 e S a w → Q e S → Q' .normal a w) (hc : Conc N w0 g0 e S a w) (h : wpL P cls ops Q ops.toList e S) (ro : Option Nat) : (Code.region id ops true).wpIn (wR ro) 0 P Q' a w := by
 refine wpIn_region_any hm (wpAny_of_x ro (cls := cls) hds hQ _ _ e S a _ (hc.draw _) ?_)
 have := wpX_lex (md := .any) ops.toList 0 (Array.replicate ops.size false) e S (by simp) (by simpa [lexOk] using hB) h
 simpa using this
theorem wpList_of_L (ro : Option Nat) {cls : Op → Cls} {ops : Array Oper} (hds : dstsOk N ops = true) {Q : Env → Store → Prop} {Q' : Exit → Act → World → Prop} (hQ : ∀ e S a w, Conc N w0 g0 e S a w → Q e S → Q' .normal a w) :
  ∀ (l : List Oper) (_ : ∀ o ∈ l, ∃ i : Nat, ops[i]? = some o) (e : Env) (S : Store) (a : Act) (w : World), Conc N w0 g0 e S a w → wpL P cls ops Q l e S → wpListIn (wR ro) 0 P ops Q' l a w
 | [], _, e, S, a, w, hc, h => hQ e S a w hc h
 | o :: l, hl, e, S, a, w, hc, h => by
  obtain ⟨i, hi⟩ := hl o (by simp)
  have hd := dstsOk_spec hds hi
  have her : ∃ g, ERel w g e a := by obtain ⟨_, _, g, _, h4, _⟩ := hc; exact ⟨g, h4⟩
  obtain ⟨g, her⟩ := her
  unfold wpL at h
  unfold wpListIn
  split at h
  ·rename_i hw
   rw [aWant_ok her hw]
   obtain ⟨v, S', h1, h2⟩ := h
   simp only [if_true]
   exact hc.does hd h1.does (fun a' w' hc' => wpList_of_L ro hds hQ l (fun o ho => hl o (by simp [ho])) _ _ a' w' hc' h2) ro
  ·rename_i hw
   rw [aWant_ok her hw]
   simp only [Bool.false_eq_true, if_false]
   exact ⟨fun _ _ => trivial, wpList_of_L ro hds hQ l (fun o ho => hl o (by simp [ho])) _ _ _ w (hc.skip hd) h⟩
  ·exact h.elim
theorem region_list {cls : Op → Cls} {ops : Array Oper} {id : Nat} {Q : Env → Store → Prop} {Q' : Exit → Act → World → Prop} {e : Env} {S : Store} {a : Act} {w : World} (hds : dstsOk N ops = true)
  (hQ : ∀ e S a w, Conc N w0 g0 e S a w → Q e S → Q' .normal a w) (hc : Conc N w0 g0 e S a w) (h : wpL P cls ops Q ops.toList e S) (ro : Option Nat) : (Code.region id ops false).wpIn (wR ro) 0 P Q' a w :=
 wpIn_region_list (wpList_of_L ro hds hQ ops.toList (fun o ho => by
  obtain ⟨i, hi⟩ := List.mem_iff_getElem?.1 ho
  exact ⟨i, by simpa using hi⟩) e S a w hc h)
end
end Go.Proofs.YtlefikdjhnaapaaGreatDoor.Pe
namespace Go.Proofs.YtlefikdjhnaapaaGreatDoor.Pe
open Go Go.RowKit
variable [Tab]
theorem r0_id {n : Nat} {ρ : Nat → Nat} {v : AV} (h : v.o0 n = true) (hρ : ∀ i, i < n → ρ i = i) : v.r0 ρ = v := by
 cases v with
 | sl m es =>
  cases m with
  | own l => simp only [AV.o0, decide_eq_true_eq] at h; simp only [AV.r0, Mode.ren, hρ l h]
  | _ => rfl
 | ptr l o => simp only [AV.o0, decide_eq_true_eq] at h; simp only [AV.r0, hρ l h]
 | mp l => simp only [AV.o0, decide_eq_true_eq] at h; simp only [AV.r0, hρ l h]
 | ws l o m c => simp only [AV.o0, decide_eq_true_eq] at h; simp only [AV.r0, hρ l h]
 | wr l m o => simp only [AV.o0, decide_eq_true_eq] at h; simp only [AV.r0, hρ l h]
 | _ => rfl
theorem map_id_of {f : AV → AV} {p : AV → Bool} {l : List AV} (h : l.all p = true) (hf : ∀ v, p v = true → f v = v) : l.map f = l := by
 induction l with
 | nil => rfl
 | cons a l ih =>
  simp only [List.all_cons, Bool.and_eq_true] at h
  rw [List.map_cons, hf a h.1, ih h.2]
theorem r1_id {n : Nat} {ρ : Nat → Nat} {v : AV} (h : v.o1 n = true) (hρ : ∀ i, i < n → ρ i = i) : v.r1 ρ = v := by
 cases v with
 | fn f a c =>
  simp only [AV.o1, Bool.and_eq_true] at h
  simp only [AV.r1]
  rw [map_id_of h.1 (fun v hv => r0_id hv hρ), map_id_of h.2 (fun v hv => r0_id hv hρ)]
 | bo b => exact r0_id (v := (.bo b)) h hρ
 | it k n => exact r0_id (v := (.it k n)) h hρ
 | st l => exact r0_id (v := (.st l)) h hρ
 | ot x => exact r0_id (v := (.ot x)) h hρ
 | sl m es => exact r0_id (v := (.sl m es)) h hρ
 | ptr l o => exact r0_id (v := (.ptr l o)) h hρ
 | pst x o => exact r0_id (v := (.pst x o)) h hρ
 | mp l => exact r0_id (v := (.mp l)) h hρ
 | fm es => exact r0_id (v := (.fm es)) h hρ
 | ws l o m c => exact r0_id (v := (.ws l o m c)) h hρ
 | wr l m o => exact r0_id (v := (.wr l m o)) h hρ
 | junk => exact r0_id (v := .junk) h hρ
 | agg cs => exact r0_id (v := (.agg cs)) h hρ
 | tup vs => exact r0_id (v := (.tup vs)) h hρ
theorem r2_id {n : Nat} {ρ : Nat → Nat} {v : AV} (h : v.o2 n = true) (hρ : ∀ i, i < n → ρ i = i) : v.r2 ρ = v := by
 cases v with
 | agg cs => simp only [AV.r2]; rw [map_id_of h (fun v hv => r1_id hv hρ)]
 | bo b => exact r1_id (v := (.bo b)) h hρ
 | it k n => exact r1_id (v := (.it k n)) h hρ
 | st l => exact r1_id (v := (.st l)) h hρ
 | ot x => exact r1_id (v := (.ot x)) h hρ
 | sl m es => exact r1_id (v := (.sl m es)) h hρ
 | ptr l o => exact r1_id (v := (.ptr l o)) h hρ
 | pst x o => exact r1_id (v := (.pst x o)) h hρ
 | mp l => exact r1_id (v := (.mp l)) h hρ
 | fm es => exact r1_id (v := (.fm es)) h hρ
 | ws l o m c => exact r1_id (v := (.ws l o m c)) h hρ
 | wr l m o => exact r1_id (v := (.wr l m o)) h hρ
 | junk => exact r1_id (v := .junk) h hρ
 | fn f a c => exact r1_id (v := (.fn f a c)) h hρ
 | tup vs => exact r1_id (v := (.tup vs)) h hρ
theorem ren_id {n : Nat} {ρ : Nat → Nat} {v : AV} (h : v.ok n = true) (hρ : ∀ i, i < n → ρ i = i) : v.ren ρ = v := by
 cases v with
 | tup cs => simp only [AV.ren]; rw [map_id_of h (fun v hv => r2_id hv hρ)]
 | bo b => exact r2_id (v := (.bo b)) h hρ
 | it k n => exact r2_id (v := (.it k n)) h hρ
 | st l => exact r2_id (v := (.st l)) h hρ
 | ot x => exact r2_id (v := (.ot x)) h hρ
 | sl m es => exact r2_id (v := (.sl m es)) h hρ
 | ptr l o => exact r2_id (v := (.ptr l o)) h hρ
 | pst x o => exact r2_id (v := (.pst x o)) h hρ
 | mp l => exact r2_id (v := (.mp l)) h hρ
 | fm es => exact r2_id (v := (.fm es)) h hρ
 | ws l o m c => exact r2_id (v := (.ws l o m c)) h hρ
 | wr l m o => exact r2_id (v := (.wr l m o)) h hρ
 | junk => exact r2_id (v := .junk) h hρ
 | fn f a c => exact r2_id (v := (.fn f a c)) h hρ
 | agg cs => exact r2_id (v := (.agg cs)) h hρ
section
variable {P : Program}
theorem AC.pure {f : FuncId} {args : List AV} {v : AV} (h : AC P f args [] v []) (ha : args.all (AV.ok 0) = true) (hv : v.ok 0 = true) (T : Store) : AC P f args T v T := by
 have := h.frame (T := T) [] ⟨List.nodup_nil, rfl, fun i o hi => by simp at hi⟩ ha hv (fun i o hi => by simp at hi)
 rw [map_id_of ha (fun v hv => ren_id hv (fun i hi => absurd hi (Nat.not_lt_zero _))), ren_id hv (fun i hi => absurd hi (Nat.not_lt_zero _))] at this
 simpa [after, setAll] using this
def AV.wk1 : AV → AV
 | .sl _ es => .sl .ro es
 | v => v
def AV.wk2 : AV → AV
 | .agg cs => .agg (cs.map AV.wk1)
 | v => v.wk1
def AV.wk : AV → AV
 | .tup vs => .tup (vs.map AV.wk2)
 | v => v.wk2
theorem Rel.wk1 {w : World} {g : Gh} {v : AV} {cv : Value} (h : Rel w g v cv) : Rel w g v.wk1 cv := by
 cases h with
 | sl _ m es A c sz cu hc hcm hsz hA h1 hr hm => exact .sl _ .ro es A c sz cu hc hcm hsz hA h1 hr trivial
 | bo => exact .bo _ _
 | it => exact .it _ _ _
 | st => exact .st _ _
 | ot _ _ h => exact .ot _ _ h
 | junk => exact .junk _ _
 | agg _ cs arr hn h1 hr => exact .agg _ cs arr hn h1 hr
 | tup _ vs arr hn hr => exact .tup _ vs arr hn hr
 | ptr _ l off hl hb => exact .ptr _ l off hl hb
 | pst _ e off b o cu hA h1 hr => exact .pst _ e off b o cu hA h1 hr
 | fn _ f first caps fa ca hf hc hrf hrc => exact .fn _ f first caps fa ca hf hc hrf hrc
 | mp _ l hl hb => exact .mp _ l hl hb
 | fm _ es b me clock hG hb hs hk hv => exact .fm _ es b me clock hG hb hs hk hv
 | ws _ l o m c hl hb hc hm => exact .ws _ l o m c hl hb hc hm
 | wr _ l m c A hl hb hw hc hm h0 hA => exact .wr _ l m c A hl hb hw hc hm h0 hA
 | wp _ l m off b o hl hb hw hA => exact .wp _ l m off b o hl hb hw hA
theorem map_rel' {w : World} {g : Gh} {f : AV → AV} {vs : List AV} {arr : Array Value} (hf : ∀ u v, Rel w g u v → Rel w g (f u) v)
  (h : ∀ (j : Nat) u v, vs[j]? = some u → arr[j]? = some v → Rel w g u v) : ∀ (j : Nat) u v, (vs.map f)[j]? = some u → arr[j]? = some v → Rel w g u v := by
 intro j u v hu hv
 rw [List.getElem?_map] at hu
 obtain ⟨u', hu', rfl⟩ := Option.map_eq_some_iff.1 hu
 exact hf u' v (h j u' v hu' hv)
theorem Rel.wk2 {w : World} {g : Gh} {v : AV} {cv : Value} (h : Rel w g v cv) : Rel w g v.wk2 cv := by
 cases v with
 | agg cs =>
  cases h with
  | agg _ _ arr hn h1 hr => exact .agg _ _ arr (by simpa using hn) h1 (map_rel' (fun u v h => h.wk1) hr)
 | _ => exact Rel.wk1 h
theorem Rel.wk {w : World} {g : Gh} {v : AV} {cv : Value} (h : Rel w g v cv) : Rel w g v.wk cv := by
 cases v with
 | tup cs =>
  cases h with
  | tup _ _ arr hn hr => exact .tup _ _ arr (by simpa using hn) (map_rel' (fun u v h => h.wk2) hr)
 | _ => exact Rel.wk2 h
theorem AC.weak {f : FuncId} {args : List AV} {S S' : Store} {v : AV} (h : AC P f (args.map AV.wk) S v S') : AC P f args S v S' :=
 ⟨h.can, fun w g cargs hw hargs => h.run w g cargs hw ⟨by rw [hargs.1]; simp, map_rel' (fun u v h => h.wk) hargs.2⟩⟩
def aMake (P : Program) (t : TypeId) (l c : AV) (S : Store) : Option (AV × Store) :=
 match appOf P t, l, c with
 | some (e, sz, by_), .it _ n, .it _ m => if n = 0 ∧ 0 ≤ m ∧ fits m.toNat by_ = true then some (.sl (.own S.length) [], S ++ [.buf 0 e sz]) else none
 | _, _, _ => none
theorem does_make {o : Oper} {e : Env} {S S' : Store} {v : AV} {t : TypeId} {x y : Operand} (ho : o.op = .makeSlice t x y) (h : aMake P t (ev e x) (ev e y) S = some (v, S')) : Does P o e S v S' :=
 does_value fun ρ w g hw hr => by
  have hx := hr x (by rw [ho]; simp [Op.operands])
  have hy := hr y (by rw [ho]; simp [Op.operands])
  unfold aMake at h
  split at h
  ·rename_i el sz by_ k n k' m ht h1 h2
   obtain ⟨hut, hsz0, i, z, hi, hz, rfl, rfl, hzs⟩ := appOf_spec ht
   split at h
   ·rename_i hcond
    obtain ⟨rfl, h0, hfit⟩ := hcond
    cases h
    obtain ⟨hf1, hf2⟩ := fits_spec hfit
    rw [h1] at hx
    rw [h2] at hy
    generalize hcx : ρ x = cx at hx
    generalize hcy : ρ y = cy at hy
    cases hx; cases hy
    have hmm : (m.toNat : Int) = m := Int.toNat_of_nonneg h0
    have hcb : (i.bytes : Int) * m ≤ 140737488355328 := by
     have h3 : ((m.toNat * i.bytes : Nat) : Int) ≤ 140737488355328 := by omega
     rw [Int.natCast_mul, hmm, Int.mul_comm] at h3
     exact h3
    have hrun := run_make (P := P) w t el i z hut hi hz k k' 0 m (Int.le_refl _) h0 (by omega) (by omega)
    obtain ⟨g', h5, h6, h7⟩ := hw.new_buf (es := []) (cur := madeCells z.cells (m.toNat * i.size)) (e := el) (sz := i.size) (cap := m.toNat) (fr := (0, 0)) hsz0 (by simp) (by simp) (by unfold maxLen; omega) (by simp [madeCells]) (.inl (by simp)) [] ⟨by simp [flat], by simp, by simp [flat]⟩ (by simp)
    refine ⟨_, _, g', ?_, h5, h7, h6⟩
    unfold execOp
    simp only [ho, hcx, hcy, Sem.run_bind, hrun, Result.andThen_ok, Sem.run_pure]
    rfl
   ·cases h
  ·cases h
def bytOf (P : Program) (d : TypeId) : Option TypeId :=
 match P.underlying d with
 | some (.slice el) => match P.underlying el with
  | some (.int .u8) => some el
  | _ => none
 | _ => none
theorem bytOf_spec {d el : TypeId} (h : bytOf P d = some el) : P.underlying d = some (.slice el) ∧ P.underlying el = some (.int .u8) := by
 unfold bytOf at h
 split at h
 ·rename_i e h1
  split at h
  ·rename_i h2
   cases h
   exact ⟨h1, h2⟩
  ·cases h
 ·cases h
def aBytes (P : Program) (s d : TypeId) (x : AV) (S : Store) : Option (AV × Store) :=
 match kdOf P s, bytOf P d, x with
 | .str, some el, .st l => if l.length ≤ 140737488355328 then some (.sl (.own S.length) (l.map u8), S ++ [.buf l.length el 1]) else none
 | _, _, _ => none
def aLits (P : Program) (t : TypeId) (n : Nat) (qs : List (Nat × AV)) : Option AV := if (appOf P t).isSome ∧ (sleOf P t).all (fun s => (zerOf P s.1).isSome) = true then aLit P t n qs else none
def bindO {α : Type} (x : Option α) (K : α → Prop) : Prop :=
 match x with
 | some v => K v
 | none => False
@[congr] theorem bindO_congr {α : Type} {x y : Option α} (K : α → Prop) (h : x = y) : bindO x K = bindO y K := by rw [h]
def orO {α : Type} (x y : Option α) : Option α := match x with
 | some v => some v
 | none => y
theorem orO_some {α : Type} (v : α) (y : Option α) : orO (some v) y = some v := rfl
theorem orO_none {α : Type} (y : Option α) : orO none y = y := rfl
def okO (b : Bool) : Option Unit := if b then some () else none
theorem okO_true : okO true = some () := rfl
theorem bindO_some {α : Type} (v : α) (K : α → Prop) : bindO (some v) K = K v := rfl
theorem bindO_none {α : Type} (K : α → Prop) : bindO none K = False := rfl
theorem bindO_spec {α : Type} {x : Option α} {K : α → Prop} (h : bindO x K) : ∃ v, x = some v ∧ K v := by
 cases x with
 | none => exact h.elim
 | some v => exact ⟨v, rfl, h⟩
def iteP (b : Bool) (X Y : Prop) : Prop := (b = true → X) ∧ (b = false → Y)
@[congr] theorem iteP_congr {b c : Bool} (X Y : Prop) (h : b = c) : iteP b X Y = iteP c X Y := by rw [h]
theorem iteP_true (X Y : Prop) : iteP true X Y = X := by simp [iteP]
theorem iteP_false (X Y : Prop) : iteP false X Y = Y := by simp [iteP]
theorem iteP_mk {b : Bool} {X Y : Prop} (h : b = true → X) (h' : b = false → Y) : iteP b X Y := ⟨h, h'⟩
def callP (C : AV → Store → Prop) (K : AV → Store → Prop) : Prop := ∃ v S, C v S ∧ K v S
@[congr] theorem callP_congr {C D : AV → Store → Prop} (K : AV → Store → Prop) (h : C = D) : callP C K = callP D K := by rw [h]
theorem callP_mk {C : AV → Store → Prop} {K : AV → Store → Prop} (v : AV) (S : Store) (h : C v S) (h' : K v S) : callP C K := ⟨v, S, h, h'⟩
def PureC (P : Program) (f : FuncId) (args : List AV) (S : Store) (v : AV) (S' : Store) : Prop := AC P f (args.map AV.wk) [] v [] ∧ (args.map AV.wk).all (AV.ok 0) = true ∧ v.ok 0 = true ∧ S' = S
def ReadC (P : Program) (f : FuncId) (args : List AV) (S : Store) (v : AV) (S' : Store) : Prop := (∀ R, AC P f (args.map AV.wk) (S ++ R) v (S ++ R)) ∧ S' = S
def AnyC (P : Program) (f : FuncId) (args : List AV) (S : Store) (v : AV) (S' : Store) : Prop := AC P f (args.map AV.wk) S v S'
def ACall (P : Program) (pf rf : List FuncId) (f : FuncId) (args : List AV) (S : Store) : AV → Store → Prop :=
 if pf.contains f then PureC P f args S else if rf.contains f then ReadC P f args S else AnyC P f args S
def ACallT (P : Program) (pf rf : List FuncId) (fo : Operand) (f : FuncId) (args : List AV) (S : Store) : AV → Store → Prop :=
 match fo with
 | .tmp t => if pf.contains (t + 1000000) then PureC P f args S else if rf.contains (t + 1000000) then ReadC P f args S else ACall P pf rf f args S
 | _ => ACall P pf rf f args S
def AYB (P : Program) (b : Nat) (args : List AV) (S : Store) (v : AV) (S' : Store) : Prop :=
 ∀ (w : World) (g : Gh) (cargs : Array Value), WF w g S → LRel w g args cargs → ∃ fn tmps asn bdy, (Instr.yield b cargs).run P w = .ok (.round b fn tmps asn bdy) w ∧
  RoundIn Fence.wide 0 P b fn tmps asn bdy w fun r w' => ∃ cv g', r = .returned cv ∧ WF w' g' S' ∧ Rel w' g' v cv ∧ Evo w g w' g'
theorem AYB.weak {b : Nat} {args : List AV} {S S' : Store} {v : AV} (h : AYB P b (args.map AV.wk) S v S') : AYB P b args S v S' :=
 fun w g cargs hw hargs => h w g cargs hw ⟨by rw [hargs.1]; simp, map_rel' (fun u v h => h.wk) hargs.2⟩
theorem does_yield {o : Oper} {e : Env} {S S' : Store} {v : AV} {c : Call} {fo : Operand} {b : Nat} {fa ca : List AV} (ho : o.op = .call c) (hc : c.callee = .value fo) (hf : ev e fo = .fn (.yield b) fa ca) (hca : ca = [])
  (h : AYB P b (fa ++ c.args.toList.map (ev e)) S v S') : Does P o e S v S' := by
 intro a w g hw hr K Q hK
 have hfo := hr fo (by rw [ho]; simp [Op.operands, Call.operands, hc])
 rw [hf] at hfo
 generalize hcf : a.eval fo = cf at hfo
 cases hfo with
 | fn _ _ _ _ fav cav hfs hcs hrf hrc =>
  have hargs : LRel w g (fa ++ c.args.toList.map (ev e)) (fav ++ c.args.map a.eval) := by
   refine ⟨by simp [hfs], fun j u v hu hv => ?_⟩
   have hv' : (fav.toList ++ c.args.toList.map a.eval)[j]? = some v := by
    rw [← hv, ← Array.getElem?_toList]
    simp
   have l1 : fav.toList.length = fa.length := by simpa using hfs
   rw [List.getElem?_append] at hu hv'
   rw [l1] at hv'
   split at hu
   ·rename_i h1
    rw [if_pos h1] at hv'
    exact hrf j u v hu (by simpa using hv')
   ·rename_i h1
    rw [if_neg h1] at hv'
    rw [List.getElem?_map] at hu hv'
    obtain ⟨x, hx, rfl⟩ := Option.map_eq_some_iff.1 hu
    rw [hx] at hv'
    cases hv'
    refine hr x ?_
    rw [ho]
    simp only [Op.operands, Call.operands, Array.toList_append, List.mem_append]
    exact .inr (List.mem_iff_getElem?.2 ⟨_, hx⟩)
  obtain ⟨fn, tmps, asn, bdy, hy, hR⟩ := h w g _ hw hargs
  have hrun : (execOp a.eval o).run P w = .ok (.round b fn tmps asn bdy) w := by
   unfold execOp
   simp only [ho]
   show Sem.run P (do let d ← resolve a.eval c o.type; invoke d.target d.args) w = _
   simp only [resolve, hc, hcf, Deferred.ofValue, Sem.run_bind, Sem.run_pure, Result.andThen_ok, invoke]
   exact hy
  refine wq_of hrun (fun _ e => by cases e) fun ro => ?_
  rw [Oper.uponIn_round]
  refine ⟨fun e => by simp [wR, Fence.wide] at e, RoundIn.mono (show RoundIn (wR ro) (0 - 1) P b fn tmps asn bdy w _ from hR) ?_⟩
  rintro r w' ⟨cv, g', rfl, h1, h2, h3⟩
  exact hK cv w' g' h1 h2 h3
def AYT (P : Program) (pf rf : List FuncId) (t : Nat) (b : Nat) (args : List AV) (S : Store) (v : AV) (S' : Store) : Prop := (pf.contains (t + 1000000) = false ∧ rf.contains (t + 1000000) = false) ∧ AYB P b (args.map AV.wk) S v S'
def AOp (P : Program) (pf rf : List FuncId) (op : Op) (e : Env) (S : Store) (K : AV → Store → Prop) : Prop :=
 match op with
 | .load t x => bindO (aLoad (szOf P t) S (ev e x)) fun v => K v S
 | .store t x y => bindO (aStore (szOf P t) S (ev e x) (ev e y)) fun S' => K .junk S'
 | .box _ x => bindO (if (ev e x).solid = true then some (ev e x).cells else none) fun cs => K (.ptr S.length 0) (S ++ [.cells cs])
 | .alloc t => bindO (zerOf P t) fun z => K (.ptr S.length 0) (S ++ [zobj t z])
 | .buildSlice t n parts => bindO (aLits P t n (parts.toList.map fun p => (p.1, ev e p.2))) fun v => K v S
 | .makeSlice t x y => bindO (orO (aMake P t (ev e x) (ev e y) S) (aMakeW P t (ev e x) (ev e y) S)) fun r => K r.1 r.2
 | .makeMap t r => bindO (okO ((mapOf P t).isSome && aMk (r.map (ev e)))) fun _ => K (.mp S.length) (S ++ [.map []])
 | .insert t m k v => bindO (aMapSet (mapOf P t) S (ev e m) (ev e k) (ev e v)) fun S' => K .junk S'
 | .mapUpdate t m k v => bindO (aMapSet (mapOf P t) S (ev e m) (ev e k) (ev e v)) fun S' => K .junk S'
 | .lookup t x k b => bindO (aLook (mapOf P t) S (ev e x) (ev e k) b) fun v => K v S
 | .range t x => bindO (aRange (kdOf P t) S (ev e x)) fun r => K r.1 r.2
 | .next x b => bindO (aNext S (ev e x) b) fun r => K r.1 r.2
 | .convert s d x => match kdOf P d with
  | .bytes => bindO (aBytes P s d (ev e x) S) fun r => K r.1 r.2
  | _ => bindO (aConv P s d (ev e x)) fun v => K v S
 | .call c => match c.callee with
  | .value fo => match ev e fo with
   | .fn (.func f) fa ca => callP (ACallT P pf rf fo f (fa ++ c.args.toList.map (ev e) ++ ca) S) K
   | .fn (.yield b) fa [] => match fo with
    | .tmp t => callP (AYT P pf rf t b (fa ++ c.args.toList.map (ev e)) S) K
    | _ => False
   | _ => False
  | .builtin .append => match c.args.toList, c.argTypes.toList with
   | [x, y], [t, u] => bindO (aApp P t u S (ev e x) (ev e y)) fun r => K r.1 r.2
   | _, _ => False
  | .builtin b => bindO (aBui P b c.argTypes (c.args.toList.map (ev e))) fun v => K v S
  | _ => False
 | .pick c x y => match ev e c with
  | .bo t => K (if t then ev e x else ev e y) S
  | _ => False
 | .binOp op t x y _ => bindO (aBinO P op t e x y) fun v => K v S
 | op => bindO (aval P e op) fun v => K v S
theorem xstep_aval {c : Cls} {o : Oper} {e : Env} {S : Store} {v : AV} (hc : c = .free) (h : aval P e o.op = some v) : XStep P c o e S v S := by
 subst hc
 exact ⟨rfl, fun T => does_aval h⟩
theorem get_app {S : Store} {l : Nat} {o : SObj} (h : S[l]? = some o) (R : Store) : (S ++ R)[l]? = some o := by
 rw [List.getElem?_append_left (List.getElem?_eq_some_iff.1 h).1]; exact h
theorem aLoad_app {sz : Option (Nat × Bool)} {S : Store} {x v : AV} (h : aLoad sz S x = some v) (R : Store) : aLoad sz (S ++ R) x = some v := by
 unfold aLoad at h ⊢
 split at h
 ·split at h
  ·rename_i cs hS
   simp only [get_app hS R]
   exact h
  ·cases h
 ·exact h
 ·split at h
  ·rename_i cs _ _ hS
   simp only [get_app hS R]
   exact h
  ·cases h
 ·cases h
theorem aLook_app {m : Option (Option IntKind × AV)} {S : Store} {x k v : AV} {ok : Bool} (h : aLook m S x k ok = some v) (R : Store) : aLook m (S ++ R) x k ok = some v := by
 unfold aLook at h ⊢
 split at h
 ·split at h
  ·rename_i es hS
   simp only [get_app hS R]
   exact h
  ·cases h
 ·exact h
 ·exact h
 ·cases h
theorem AOp_ok {pf rf : List FuncId} {o : Oper} {e : Env} {S : Store} {K : AV → Store → Prop} (h : AOp P pf rf o.op e S K) : ∃ v S', XStep P (clsOf P pf rf o.op) o e S v S' ∧ K v S' := by
 unfold AOp at h
 cases ho : o.op <;> rw [ho] at h <;> simp only at h
 case load t x =>
  obtain ⟨v, hv, h⟩ := bindO_spec h
  exact ⟨v, S, ⟨rfl, fun R => does_load ho (aLoad_app hv R)⟩, h⟩
 case store t x y =>
  obtain ⟨S', hv, h⟩ := bindO_spec h
  exact ⟨.junk, S', does_store ho hv, h⟩
 case box t x =>
  obtain ⟨cs, hv, h⟩ := bindO_spec h
  split at hv
  ·rename_i hs
   cases hv
   exact ⟨_, _, ⟨⟨_, rfl⟩, does_box ho hs⟩, h⟩
  ·cases hv
 case alloc t =>
  obtain ⟨z, hv, h⟩ := bindO_spec h
  exact ⟨_, _, ⟨⟨_, rfl⟩, does_alloc ho hv⟩, h⟩
 case buildSlice t n parts =>
  obtain ⟨v, hv, h⟩ := bindO_spec h
  unfold aLits at hv
  split at hv
  ·rename_i hc
   exact ⟨v, S, ⟨rfl, fun T => does_lit ho hv (fun e' sz ag hs => by have := hc.2; rw [hs] at this; simpa using this)⟩, h⟩
  ·cases hv
 case makeSlice t x y =>
  obtain ⟨⟨v, S'⟩, hv, h⟩ := bindO_spec h
  refine ⟨v, S', ?_, h⟩
  unfold orO at hv
  split at hv
  ·rename_i h1; cases hv; exact does_make ho h1
  ·exact does_makeW ho hv
 case makeMap t r =>
  obtain ⟨_, hv, h⟩ := bindO_spec h
  unfold okO at hv
  split at hv
  ·rename_i h1
   simp only [Bool.and_eq_true] at h1
   exact ⟨_, _, ⟨⟨_, rfl⟩, does_makeMap ho h1.1 h1.2⟩, h⟩
  ·cases hv
 case insert t m k v =>
  obtain ⟨S', hv, h⟩ := bindO_spec h
  exact ⟨.junk, S', does_mapSet (.inr ho) hv, h⟩
 case mapUpdate t m k v =>
  obtain ⟨S', hv, h⟩ := bindO_spec h
  exact ⟨.junk, S', does_mapSet (.inl ho) hv, h⟩
 case lookup t x k b =>
  obtain ⟨v, hv, h⟩ := bindO_spec h
  exact ⟨v, S, ⟨rfl, fun R => does_lookup ho (aLook_app hv R)⟩, h⟩
 case range t x =>
  obtain ⟨⟨v, S'⟩, hv, h⟩ := bindO_spec h
  exact ⟨v, S', does_range ho hv, h⟩
 case next x b =>
  obtain ⟨⟨v, S'⟩, hv, h⟩ := bindO_spec h
  exact ⟨v, S', does_next ho hv, h⟩
 case convert s d x =>
  split at h
  ·rename_i hk
   obtain ⟨r, hv, h⟩ := bindO_spec h
   refine ⟨r.1, r.2, ?_, h⟩
   unfold aBytes at hv
   split at hv
   ·rename_i el l h1 h2 h3
    split at hv
    ·rename_i h4
     cases hv
     obtain ⟨h5, h6⟩ := bytOf_spec h2
     simp only [clsOf, hk]
     exact does_bytes ho h1 h5 h6 h3 h4
    ·cases hv
   ·cases hv
  ·rename_i hk
   obtain ⟨v, hv, h⟩ := bindO_spec h
   refine ⟨v, S, xstep_aval ?_ (by rw [ho]; exact hv), h⟩
   simp only [clsOf]
 case binOp op t x y yt =>
  obtain ⟨v, hv, h⟩ := bindO_spec h
  unfold aBinO at hv
  split at hv
  ·rename_i hy
   split at hv
   ·rename_i ht
    exact ⟨v, S, ⟨rfl, fun T => does_nilEq ho hy ht hv⟩, h⟩
   ·cases hv
  ·exact ⟨v, S, xstep_aval rfl (by rw [ho]; exact hv), h⟩
 case pick c x y =>
  split at h
  ·rename_i t ht
   exact ⟨_, S, xstep_aval rfl (by rw [ho]; simp only [aval, ht]), h⟩
  ·exact h.elim
 case call c =>
  split at h
  ·rename_i fo hfo
   split at h
   ·rename_i f fa ca hf
    obtain ⟨v, S', h, h4⟩ := h
    refine ⟨v, S', ?_, h4⟩
    have purec : PureC P f (fa ++ c.args.toList.map (ev e) ++ ca) S v S' → XStep P .free o e S v S' := fun ⟨h1, h2, h3, h5⟩ => by
     subst h5
     exact ⟨rfl, fun T => does_call ho hfo hf (h1.pure h2 h3 T).weak⟩
    have readc : ReadC P f (fa ++ c.args.toList.map (ev e) ++ ca) S v S' → XStep P .read o e S v S' := fun ⟨h1, h5⟩ => by
     subst h5
     exact ⟨rfl, fun R => does_call ho hfo hf (h1 R).weak⟩
    have anyc : ACall P pf rf f (fa ++ c.args.toList.map (ev e) ++ ca) S v S' → Does P o e S v S' := fun h => by
     unfold ACall at h
     split at h
     ·exact (purec h).does
     ·split at h
      ·exact (readc h).does
      ·exact does_call ho hfo hf (AC.weak h)
    unfold ACallT at h
    cases fo with
    | tmp t =>
     simp only at h
     simp only [clsOf, hfo]
     split at h
     ·rename_i hp; rw [if_pos hp]; exact purec h
     ·rename_i hp
      rw [if_neg hp]
      split at h
      ·rename_i hq; rw [if_pos hq]; exact readc h
      ·rename_i hq; rw [if_neg hq]; exact anyc h
    | func f' =>
     simp only at h
     simp only [clsOf, hfo]
     have : ev e (.func f') = .fn (.func f) fa ca := hf
     cases this
     unfold ACall at h
     split at h
     ·rename_i hp; rw [if_pos hp]; exact purec h
     ·rename_i hp
      rw [if_neg hp]
      split at h
      ·rename_i hq; rw [if_pos hq]; exact readc h
      ·rename_i hq; rw [if_neg hq]; exact does_call ho hfo hf (AC.weak h)
    | const v => simp only [clsOf, hfo]; exact anyc h
    | global g => simp only [clsOf, hfo]; exact anyc h
   ·rename_i b fa hf
    cases fo with
    | tmp t =>
     obtain ⟨v, S', ⟨⟨h1, h2⟩, h3⟩, h4⟩ := h
     refine ⟨v, S', ?_, h4⟩
     simp only [clsOf, hfo]
     rw [if_neg (by rw [h1]; exact Bool.false_ne_true), if_neg (by rw [h2]; exact Bool.false_ne_true)]
     exact does_yield ho hfo hf rfl (AYB.weak h3)
    | _ => exact h.elim
   ·exact h.elim
  ·rename_i hb
   split at h
   ·rename_i x y t u hargs hts
    obtain ⟨r, hv, h⟩ := bindO_spec h
    refine ⟨r.1, r.2, ?_, h⟩
    have hc : c = { callee := .builtin .append, args := #[x, y], argTypes := #[t, u] } := by
     cases c with | mk ce ar at_ =>
     simp only at hb hargs hts
     rw [hb]
     congr 1
     ·exact Array.ext' hargs
     ·exact Array.ext' hts
    simp only [clsOf, hb]
    exact does_append (by rw [ho, hc]) hv
   ·exact h.elim
  ·rename_i b hne hb
   obtain ⟨v, hv, h⟩ := bindO_spec h
   refine ⟨v, S, ?_, h⟩
   have hd : ∀ T, Does P o e T v T := fun T => does_aval (by rw [ho]; simp only [aval, hb]; exact hv)
   simp only [clsOf, hb]
   split <;> first | (rename_i hh; cases hh; done) | exact ⟨rfl, hd⟩ | exact hd S
  ·exact h.elim
 all_goals
  obtain ⟨v, hv, h⟩ := bindO_spec h
  first
   | exact ⟨v, S, xstep_aval rfl (by rw [ho]; exact hv), h⟩
   | (cases hv; done)
end
end Go.Proofs.YtlefikdjhnaapaaGreatDoor.Pe
end
