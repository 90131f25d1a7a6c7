/- Plain values for what a Go program computes, and how memory bears them: values without addresses; numbered places that the call may write; what memory must keep. Nothing of the program. -/
import Derived.Test.YtknbnhmenohacaaMem
namespace Go.Proofs.Ytknbnhmenohacaa.Pe
set_option linter.unusedSectionVars false
set_option linter.unusedVariables false
set_option linter.unusedSimpArgs false
open Go Go.RowKit
/-- whether a slice may be appended to: not known; its capacity is its length; it is the row of number l -/
inductive Mode where
  | ro | full | own (l : Nat)
/-- a value without addresses -/
inductive AV where
  | bo (b : Bool) | it (k : IntKind) (n : Int) | st (l : List UInt8) | ot (v : Value)
  | sl (m : Mode) (es : List AV) | agg (cs : List AV) | tup (vs : List AV)
  | ptr (l off : Nat) | pst (e : AV) (off : Nat) | fn (f : Fn) (first caps : List AV) | mp (l : Nat) | junk
  | ws (l off n c : Nat)
def AV.cells : AV → List AV
  | .agg cs => cs
  | v => [v]
def flat (es : List AV) : List AV := es.flatMap AV.cells
/-- ghost: how many cells of a block never change; where number l lies; what it owns -/
structure Gh where
  G : Nat → Nat
  pl : Nat → Nat
  own : Nat → Nat → Prop
  nid : Nat
  buf : Nat → Bool
  wm : Nat → Nat
  cap : Nat → Nat
def Gh.noid (g : Gh) : Gh := { g with nid := 0 }
def ModeOk (g : Gh) (m : Mode) (n : Nat) (A : Option Addr) (c : Nat) : Prop :=
  match m with
  | .ro => True
  | .full => c = n
  | .own l => l < g.nid ∧ g.buf l = true ∧ n ≤ g.wm l ∧ (n < g.wm l ∨ c = n ∨ (A = some ⟨g.pl l, 0, none⟩ ∧ c = g.cap l))
/-- in world w the Go value v is the plain value -/
inductive Rel (w : World) : Gh → AV → Value → Prop where
  | bo (g : Gh) (b : Bool) : Rel w g (.bo b) (.bool b)
  | it (g : Gh) (k : IntKind) (n : Int) : Rel w g (.it k n) (.int k n)
  | st (g : Gh) (l : List UInt8) : Rel w g (.st l) (.string ⟨l.toArray⟩)
  | ot (g : Gh) (v : Value) (h : v.oneCell' = true) : Rel w g (.ot v) v
  | junk (g : Gh) (v : Value) : Rel w g .junk v
  | sl (g : Gh) (m : Mode) (es : List AV) (A : Option Addr) (c sz : Nat) (cu : Nat → Value)
      (hc : es.length ≤ c) (hcm : c ≤ maxLen) (hsz : ∀ e ∈ es, e.cells.length = sz)
      (hA : 0 < es.length → ∃ b o, A = some ⟨b, o, none⟩ ∧ ∀ j, j < (flat es).length → o + j < g.G b ∧ w.cell? ⟨b, o + j, none⟩ = some (cu j))
      (h1 : ∀ j, j < (flat es).length → (cu j).oneCell' = true)
      (hr : ∀ (j : Nat) (u : AV), (flat es)[j]? = some u → Rel w g.noid u (cu j))
      (hm : ModeOk g m es.length A c) : Rel w g (.sl m es) (.slice A es.length c)
  | agg (g : Gh) (cs : List AV) (arr : Array Value) (hn : arr.size = cs.length) (h1 : ∀ v ∈ arr.toList, v.oneCell' = true)
      (hr : ∀ (j : Nat) (u : AV) (v : Value), cs[j]? = some u → arr[j]? = some v → Rel w g u v) : Rel w g (.agg cs) (.agg arr)
  | tup (g : Gh) (vs : List AV) (arr : Array Value) (hn : arr.size = vs.length)
      (hr : ∀ (j : Nat) (u : AV) (v : Value), vs[j]? = some u → arr[j]? = some v → Rel w g u v) : Rel w g (.tup vs) (.tuple arr)
  | ptr (g : Gh) (l off : Nat) (hl : l < g.nid) (hb : g.buf l = false) : Rel w g (.ptr l off) (.pointer (some ⟨g.pl l, off, none⟩))
  | pst (g : Gh) (e : AV) (off b o : Nat) (cu : Nat → Value)
      (hA : ∀ j, j < e.cells.length → o + j < g.G b ∧ w.cell? ⟨b, o + j, none⟩ = some (cu j))
      (h1 : ∀ j, j < e.cells.length → (cu j).oneCell' = true)
      (hr : ∀ (j : Nat) (u : AV), e.cells[j]? = some u → Rel w g.noid u (cu j)) : Rel w g (.pst e off) (.pointer (some ⟨b, o + off, none⟩))
  | fn (g : Gh) (f : Fn) (first caps : List AV) (fa ca : Array Value) (hf : fa.size = first.length) (hc : ca.size = caps.length)
      (hrf : ∀ (j : Nat) (u : AV) (v : Value), first[j]? = some u → fa[j]? = some v → Rel w g u v)
      (hrc : ∀ (j : Nat) (u : AV) (v : Value), caps[j]? = some u → ca[j]? = some v → Rel w g u v) : Rel w g (.fn f first caps) (.func f fa ca)
  | mp (g : Gh) (l : Nat) (hl : l < g.nid) (hb : g.buf l = false) : Rel w g (.mp l) (.map (some (g.pl l)))
  | ws (g : Gh) (l off n c : Nat) (hl : l < g.nid) (hb : g.buf l = false) (hc : n ≤ c) (hm : c ≤ maxLen) : Rel w g (.ws l off n c) (.slice (some ⟨g.pl l, off, none⟩) n c)
/-- what was true of plain values stays true -/
structure Le (w : World) (g : Gh) (w' : World) (g' : Gh) : Prop where
  cell : ∀ b o v, o < g.G b → w.cell? ⟨b, o, none⟩ = some v → w'.cell? ⟨b, o, none⟩ = some v
  G : ∀ b o v, o < g.G b → w.cell? ⟨b, o, none⟩ = some v → o < g'.G b
  nid : g.nid ≤ g'.nid
  keep : ∀ l, l < g.nid → g'.buf l = g.buf l ∧ ((g'.pl l = g.pl l ∧ g'.wm l = g.wm l ∧ g'.cap l = g.cap l) ∨ (g.buf l = true ∧ g.wm l < g'.wm l))
theorem Le.refl (w : World) (g : Gh) : Le w g w g := ⟨fun _ _ _ _ h => h, fun _ _ _ h _ => h, Nat.le_refl _, fun _ _ => ⟨rfl, .inl ⟨rfl, rfl, rfl⟩⟩⟩
theorem Le.trans {w w' w'' : World} {g g' g'' : Gh} (h : Le w g w' g') (h' : Le w' g' w'' g'') : Le w g w'' g'' := by
  refine ⟨fun b o v hb hv => h'.cell b o v (h.G b o v hb hv) (h.cell b o v hb hv), fun b o v hb hv => h'.G b o v (h.G b o v hb hv) (h.cell b o v hb hv), Nat.le_trans h.nid h'.nid, fun l hl => ?_⟩
  obtain ⟨h1, h2⟩ := h.keep l hl
  obtain ⟨h3, h4⟩ := h'.keep l (Nat.lt_of_lt_of_le hl h.nid)
  refine ⟨h3.trans h1, ?_⟩
  rcases h2 with ⟨a, b, c⟩ | ⟨a, b⟩ <;> rcases h4 with ⟨d, e, f⟩ | ⟨d, e⟩
  · exact .inl ⟨d.trans a, e.trans b, f.trans c⟩
  · exact .inr ⟨by rw [← h1]; exact d, by omega⟩
  · exact .inr ⟨a, by omega⟩
  · exact .inr ⟨a, by omega⟩
theorem Le.noid {w w' : World} {g g' : Gh} (h : Le w g w' g') : Le w g.noid w' g'.noid :=
  ⟨h.cell, h.G, Nat.le_refl _, fun l hl => absurd hl (Nat.not_lt_zero _)⟩
theorem ModeOk.le {w w' : World} {g g' : Gh} {m : Mode} {n c : Nat} {A : Option Addr} (hm : ModeOk g m n A c) (h : Le w g w' g') : ModeOk g' m n A c := by
  cases m with
  | ro => trivial
  | full => exact hm
  | own l =>
    obtain ⟨a, b, c', d⟩ := hm
    obtain ⟨h1, h2⟩ := h.keep l a
    refine ⟨Nat.lt_of_lt_of_le a h.nid, by rw [h1]; exact b, ?_, ?_⟩
    · rcases h2 with ⟨_, e, _⟩ | ⟨_, e⟩ <;> omega
    · rcases h2 with ⟨e1, e2, e3⟩ | ⟨_, e⟩
      · rw [e1, e2, e3]; exact d
      · exact .inl (by omega)
theorem Rel.le {w w' : World} {g g' : Gh} {v : AV} {cv : Value} (h : Rel w g v cv) (hl : Le w g w' g') : Rel w' g' v cv := by
  induction h generalizing g' with
  | bo g b => exact .bo _ b
  | it g k n => exact .it _ k n
  | st g l => exact .st _ l
  | ot g v h => exact .ot _ v h
  | junk g v => exact .junk _ v
  | sl g m es A c sz cu hc hcm hsz hA h1 hr hm ih =>
    refine .sl _ m es A c sz cu hc hcm hsz (fun h0 => ?_) h1 (fun j u hu => ih j u hu hl.noid) (hm.le hl)
    obtain ⟨b, o, rfl, h⟩ := hA h0
    exact ⟨b, o, rfl, fun j hj => ⟨hl.G b _ _ (h j hj).1 (h j hj).2, hl.cell b _ _ (h j hj).1 (h j hj).2⟩⟩
  | agg g cs arr hn h1 hr ih => exact .agg _ cs arr hn h1 fun j u v hu hv => ih j u v hu hv hl
  | tup g vs arr hn hr ih => exact .tup _ vs arr hn fun j u v hu hv => ih j u v hu hv hl
  | ptr g l off h hb =>
    obtain ⟨h1, h2⟩ := hl.keep l h
    rcases h2 with ⟨e, _, _⟩ | ⟨e, _⟩
    · rw [← e]; exact .ptr _ l off (Nat.lt_of_lt_of_le h hl.nid) (h1.trans hb)
    · rw [hb] at e; cases e
  | pst g e off b o cu hA h1 hr ih =>
    exact .pst _ e off b o cu (fun j hj => ⟨hl.G b _ _ (hA j hj).1 (hA j hj).2, hl.cell b _ _ (hA j hj).1 (hA j hj).2⟩) h1 fun j u hu => ih j u hu hl.noid
  | fn g f first caps fa ca hf hc hrf hrc ihf ihc => exact .fn _ f first caps fa ca hf hc (fun j u v hu hv => ihf j u v hu hv hl) fun j u v hu hv => ihc j u v hu hv hl
  | mp g l h hb =>
    obtain ⟨h1, h2⟩ := hl.keep l h
    rcases h2 with ⟨e, _, _⟩ | ⟨e, _⟩
    · rw [← e]; exact .mp _ l (Nat.lt_of_lt_of_le h hl.nid) (h1.trans hb)
    · rw [hb] at e; cases e
  | ws g l off n c h hb hc hm =>
    obtain ⟨h1, h2⟩ := hl.keep l h
    rcases h2 with ⟨e, _, _⟩ | ⟨e, _⟩
    · rw [← e]; exact .ws _ l off n c (Nat.lt_of_lt_of_le h hl.nid) (h1.trans hb) hc hm
    · rw [hb] at e; cases e
/-- what is at a numbered place: cells; a row that is n elements long and may grow; something else -/
inductive SObj where
  | cells (cs : List AV)
  | buf (n : Nat) (e : TypeId) (sz : Nat)
  | ext (X : World → Nat → (Nat → Prop) → Prop)
  | map (es : List (AV × AV)) | siter (l : List UInt8) (pos : Nat) | dead
/-- the entries of a map -/
def EsOk (w : World) (g : Gh) (es : List (AV × AV)) (me : Array MapEntry) (clock : Nat) : Prop :=
  me.size = es.length ∧ (∀ x ∈ me.toList, x.born < clock) ∧ (me.toList.map (·.born)).Nodup ∧
  ∀ (j : Nat) u x, es[j]? = some u → me[j]? = some x → Rel w g u.1 x.key ∧ Rel w g u.2 x.val
def ObjOk (w : World) (g : Gh) (l : Nat) : SObj → Prop
  | .map es => g.buf l = false ∧ g.own l (g.pl l) ∧ g.G (g.pl l) = 0 ∧ ∃ me clock, w.heap[g.pl l]? = some (.map me clock) ∧ EsOk w g es me clock
  | .siter s pos => g.buf l = false ∧ g.own l (g.pl l) ∧ g.G (g.pl l) = 0 ∧ w.heap[g.pl l]? = some (.stringIter ⟨s.toArray⟩ pos)
  | .dead => True
  | .cells cs => g.buf l = false ∧ g.own l (g.pl l) ∧ g.G (g.pl l) = 0 ∧ ∃ arr T, ∃ fr : Nat × Nat, w.heap[g.pl l]? = some (.cells arr T fr) ∧ fr.2 ≤ fr.1 ∧ arr.size = cs.length ∧
      (∀ v ∈ arr.toList, v.oneCell' = true) ∧ ∀ (j : Nat) u v, cs[j]? = some u → arr[j]? = some v → Rel w g u v
  | .buf n e sz => g.buf l = true ∧ g.wm l = n ∧ (g.cap l = 0 ∨ (g.own l (g.pl l) ∧ 0 < sz ∧ n ≤ g.cap l ∧ g.G (g.pl l) ≤ n * sz ∧
      ∃ cur, ∃ fr : Nat × Nat, w.heap[g.pl l]? = some (.cells cur e fr) ∧ (fr.2 ≤ fr.1 ∨ cur.size ≤ fr.1) ∧ cur.size = g.cap l * sz))
  | .ext X => g.buf l = false ∧ g.own l (g.pl l) ∧ (∀ b, g.own l b → g.G b = 0) ∧ ∀ w' : World, (∀ b, g.own l b → w'.heap[b]? = w.heap[b]?) → X w' (g.pl l) (g.own l)
abbrev Store := List SObj
/-- cells of package-level variables that are known and never written -/
class Tab where
  T : Nat → Nat → Option Value
def TabOk [Tab] (w : World) (g : Gh) : Prop := ∀ b i v, Tab.T b i = some v → i < g.G b ∧ w.cell? ⟨b, i, none⟩ = some v
theorem TabOk.le [Tab] {w w' : World} {g g' : Gh} (h : TabOk w g) (hl : Le w g w' g') : TabOk w' g' := fun b i v hv => ⟨hl.G b i v (h b i v hv).1 (h b i v hv).2, hl.cell b i v (h b i v hv).1 (h b i v hv).2⟩
structure WF [Tab] (w : World) (g : Gh) (S : Store) : Prop where
  nid : g.nid = S.length
  obj : ∀ l o, S[l]? = some o → ObjOk w g l o
  disj : ∀ l l' b, l < g.nid → l' < g.nid → g.own l b → g.own l' b → l = l'
  lt : ∀ l b, l < g.nid → g.own l b → b < w.heap.size
  tab : TabOk w g
structure Evo (w : World) (g : Gh) (w' : World) (g' : Gh) : Prop extends Le w g w' g' where
  os : w'.os = w.os
  tape : w'.tape = w.tape
  output : w'.output = w.output
  size : w.heap.size ≤ w'.heap.size
  old : ∀ b, b < w.heap.size → (∀ l, l < g.nid → ¬ g.own l b) → w'.heap[b]? = w.heap[b]?
  own : ∀ l b, l < g'.nid → g'.own l b → b < w.heap.size → l < g.nid ∧ g.own l b
  Gold : ∀ b, b < w.heap.size → (∀ l, l < g.nid → ¬ g.own l b) → g'.G b = g.G b
theorem Evo.refl (w : World) (g : Gh) : Evo w g w g := ⟨Le.refl w g, rfl, rfl, rfl, Nat.le_refl _, fun _ _ _ => rfl, fun _ _ hl h _ => ⟨hl, h⟩, fun _ _ _ => rfl⟩
theorem Evo.trans {w w' w'' : World} {g g' g'' : Gh} (h : Evo w g w' g') (h' : Evo w' g' w'' g'') : Evo w g w'' g'' :=
  ⟨h.toLe.trans h'.toLe, h'.os.trans h.os, h'.tape.trans h.tape, h'.output.trans h.output, Nat.le_trans h.size h'.size,
   fun b hb hn => (h'.old b (Nat.lt_of_lt_of_le hb h.size) fun l hl ho => hn l (h.own l b hl ho hb).1 (h.own l b hl ho hb).2).trans (h.old b hb hn),
   fun l b hl ho hb => by
    have h1 := h'.own l b hl ho (Nat.lt_of_lt_of_le hb h.size)
    exact h.own l b h1.1 h1.2 hb,
   fun b hb hn => (h'.Gold b (Nat.lt_of_lt_of_le hb h.size) fun l hl ho => hn l (h.own l b hl ho hb).1 (h.own l b hl ho hb).2).trans (h.Gold b hb hn)⟩
theorem Evo.draw (w : World) (g : Gh) (n : Nat) : Evo w g { w with drawn := n } g := ⟨⟨fun _ _ _ _ h => h, fun _ _ _ h _ => h, Nat.le_refl _, fun _ _ => ⟨rfl, .inl ⟨rfl, rfl, rfl⟩⟩⟩, rfl, rfl, rfl, Nat.le_refl _, fun _ _ _ => rfl, fun _ _ hl h _ => ⟨hl, h⟩, fun _ _ _ => rfl⟩
end Go.Proofs.Ytknbnhmenohacaa.Pe
