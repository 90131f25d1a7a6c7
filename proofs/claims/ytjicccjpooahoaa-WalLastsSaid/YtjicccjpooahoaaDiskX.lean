/- Package disk's contracts on plain values: a disk is an object of its own kind, known by the plain machine it is. -/
import Derived.Test.YtjicccjpooahoaaPeW4
import Derived.Test.YtjicccjpooahoaaDiskWi
namespace Go.Proofs.Ytjicccjpooahoaa.Pe
set_option linter.unusedSectionVars false
set_option linter.unusedVariables false
set_option linter.unusedSimpArgs false
open Go Go.RowKit Dm
variable [Tab]
section
variable {P : Program} {w w' : World} {g : Gh}
theorem drep_lt {S : Nat → Prop} {p : Nat} {d : Dk} (h : DRep w S p d) : DRep w (fun b => S b ∧ b < w.heap.size) p d := by
  obtain ⟨vs, kv, hr, h⟩ := h
  exact ⟨vs, kv, hr, ⟨h.head, hr.lt⟩, h.fil, fun i b hi hb => ⟨⟨(h.own i b hi hb).1, (h.fil i hi).block b hb⟩, (h.own i b hi hb).2⟩, h.apart, h.kp, fun b hb => ⟨⟨(h.kown b hb).1, h.klt b hb⟩, (h.kown b hb).2⟩, h.kapart, h.klt⟩
/-- a disk as an object -/
abbrev XD (d : Dk) : SObj := .ext fun w p S => DRep w S p d ∧ Ok d
theorem AC.ofFr {f : FuncId} {args : List AV} {v : AV} {X X' : World → Nat → (Nat → Prop) → Prop} (hcan : callable P f = true)
    (hX : ∀ w p (S T : Nat → Prop), X w p S → (∀ b, S b → T b) → X w p T)
    (hX' : ∀ (w w' : World) p (S : Nat → Prop), X' w p S → (∀ b, S b ∧ b < w.heap.size → w'.heap[b]? = w.heap[b]?) → X' w' p (fun b => S b ∧ b < w.heap.size))
    (h : ∀ (w : World) (g : Gh) (S : Nat → Prop) (cargs : Array Value), LRel w g args cargs → g.buf 0 = false → 0 < g.nid → g.G (g.pl 0) = 0 → S (g.pl 0) → (∀ b, w.heap.size ≤ b → S b) → X w (g.pl 0) S →
      Calls P f cargs w fun r w' => ∃ cv, r = .returned cv ∧ (∀ g', Rel w' g' v cv) ∧ X' w' (g.pl 0) S ∧ Fr S w w') : AC P f args [.ext X] v [.ext X'] := by
  refine ⟨hcan, fun w g cargs hw hargs => ?_⟩
  obtain ⟨ho1, ho2, ho3, ho4⟩ := hw.obj 0 _ rfl
  have hn : g.nid = 1 := hw.nid
  have hlt := hw.lt 0
  refine (h w g (fun b => g.own 0 b ∨ w.heap.size ≤ b) cargs hargs ho1 (by omega) (ho3 _ ho2) (.inl ho2) (fun b hb => .inr hb) (hX _ _ _ _ (ho4 w (fun _ _ => rfl)) fun b hb => .inl hb)).mono ?_
  rintro r w' ⟨cv, rfl, h1, h2, h3⟩
  have hb : ∀ b, b < w.heap.size → ¬ g.own 0 b → w'.heap[b]? = w.heap[b]? := fun b hb hno => h3.block b hb (fun e => e.elim hno (fun e => by omega))
  have hsz := h3.size
  generalize hg' : ({ g with own := fun l b => if l = 0 then (g.own 0 b ∨ w.heap.size ≤ b) ∧ b < w'.heap.size else g.own l b, G := fun b => if b < w.heap.size then g.G b else 0 } : Gh) = g'
  have eG : ∀ b, b < w.heap.size → g'.G b = g.G b := fun b hb => by rw [← hg']; exact if_pos hb
  have eG0 : ∀ b, ¬ b < w.heap.size → g'.G b = 0 := fun b hb => by rw [← hg']; exact if_neg hb
  have eo : g'.own 0 = fun b => (g.own 0 b ∨ w.heap.size ≤ b) ∧ b < w'.heap.size := by rw [← hg']; rfl
  have epl : g'.pl = g.pl := by rw [← hg']
  have ebuf : g'.buf = g.buf := by rw [← hg']
  have enid : g'.nid = g.nid := by rw [← hg']
  have ewm : g'.wm = g.wm := by rw [← hg']
  have ecap : g'.cap = g.cap := by rw [← hg']
  clear hg'
  have hcl : ∀ b o u, w.cell? ⟨b, o, none⟩ = some u → b < w.heap.size := fun b o u hu => World.block_lt_of_cell? w _ hu
  have hle : Le w g w' g' := ⟨fun b o u hG hc => by
      rw [World.cell?_of_block (hb b (hcl b o u hc) (fun e => by rw [ho3 b e] at hG; omega))]; exact hc,
    fun b o u hG hc => by rw [eG b (hcl b o u hc)]; exact hG, by rw [enid]; exact Nat.le_refl _, fun l _ => ⟨by rw [ebuf], .inl ⟨by rw [epl], by rw [ewm], by rw [ecap]⟩⟩,
    fun b me c hG hm => by
      have hlt' := (Array.getElem?_eq_some_iff.1 hm).1
      have hno : ¬ g.own 0 b := fun e => by rw [ho3 b e] at hG; omega
      exact ⟨by rw [eG b hlt']; exact hG, (hb b hlt' hno).trans hm⟩⟩
  refine ⟨cv, g', rfl, ?_, h1 g', ?_⟩
  · refine hw.touch (l := 0) (by simp) hle enid (fun k hk hk' => by omega) (fun b hbo => ?_) hsz (fun b hb _ => eG b hb) hb ?_
    · rw [eo] at hbo
      rcases hbo with ⟨h | h, h'⟩
      · exact .inl h
      · exact .inr ⟨h, h'⟩
    · refine ⟨by rw [ebuf]; exact ho1, ?_, ?_, ?_⟩
      · rw [eo, epl]; exact ⟨.inl ho2, by have := hlt _ (by omega) ho2; omega⟩
      · intro b hbo
        rw [eo] at hbo
        by_cases hlt' : b < w.heap.size
        · rw [eG b hlt']; exact ho3 b (hbo.1.elim id fun e => by omega)
        · exact eG0 b hlt'
      · intro w'' hs
        rw [eo, epl]
        rw [eo] at hs
        exact hX' w' w'' _ _ h2 hs
  · refine ⟨hle, h3.os, h3.tape, h3.output, hsz, fun b hlt' hno => hb b hlt' (hno 0 (by omega)), fun l b hl hbo hlt' => ?_, fun b hlt' _ => eG b hlt'⟩
    rw [enid] at hl
    obtain rfl : l = 0 := by omega
    rw [eo] at hbo
    exact ⟨hl, hbo.1.elim id fun e => by omega⟩
/-- a function that makes a new object and leaves the others alone -/
theorem AC.newFr {f : FuncId} {args : List AV} {S0 : Store} {X : World → Nat → (Nat → Prop) → Prop} (hcan : callable P f = true)
    (hX' : ∀ (w w' : World) p (S : Nat → Prop), X w p S → (∀ b, S b ∧ b < w.heap.size → w'.heap[b]? = w.heap[b]?) → X w' p (fun b => S b ∧ b < w.heap.size))
    (hp : ∀ w p S, X w p S → S p ∧ p < w.heap.size)
    (h : ∀ (w : World) (g : Gh) (cargs : Array Value), WF w g S0 → LRel w g args cargs →
      Calls P f cargs w fun r w' => ∃ p, r = .returned (.pointer (some ⟨p, 0, none⟩)) ∧ X w' p (fun b => w.heap.size ≤ b) ∧ Fr (fun b => w.heap.size ≤ b) w w') : AC P f args S0 (.ptr S0.length 0) (S0 ++ [.ext X]) := by
  refine ⟨hcan, fun w g cargs hw hargs => (h w g cargs hw hargs).mono ?_⟩
  rintro r w' ⟨p, rfl, h2, h3⟩
  have hb : ∀ b, b < w.heap.size → w'.heap[b]? = w.heap[b]? := fun b hb => h3.block b hb (by omega)
  have hsz := h3.size
  have hn : g.nid = S0.length := hw.nid
  have hpp := hp _ _ _ h2
  generalize hg' : (⟨fun b => if b < w.heap.size then g.G b else 0, fun l => if l = g.nid then p else g.pl l, fun l b => if l = g.nid then w.heap.size ≤ b ∧ b < w'.heap.size else g.own l b, g.nid + 1, fun l => if l = g.nid then false else g.buf l, g.wm, g.cap⟩ : Gh) = g'
  have eG : ∀ b, b < w.heap.size → g'.G b = g.G b := fun b hb => by rw [← hg']; exact if_pos hb
  have eG0 : ∀ b, ¬ b < w.heap.size → g'.G b = 0 := fun b hb => by rw [← hg']; exact if_neg hb
  have eo : g'.own g.nid = fun b => w.heap.size ≤ b ∧ b < w'.heap.size := by rw [← hg']; funext b; exact if_pos rfl
  have eo' : ∀ l, l ≠ g.nid → g'.own l = g.own l := fun l hl => by rw [← hg']; funext b; exact if_neg hl
  have epl : g'.pl g.nid = p := by rw [← hg']; exact if_pos rfl
  have epl' : ∀ l, l ≠ g.nid → g'.pl l = g.pl l := fun l hl => by rw [← hg']; exact if_neg hl
  have ebuf : g'.buf g.nid = false := by rw [← hg']; exact if_pos rfl
  have ebuf' : ∀ l, l ≠ g.nid → g'.buf l = g.buf l := fun l hl => by rw [← hg']; exact if_neg hl
  have enid : g'.nid = g.nid + 1 := by rw [← hg']
  have ewm : g'.wm = g.wm := by rw [← hg']
  have ecap : g'.cap = g.cap := by rw [← hg']
  clear hg'
  have hcl : ∀ b o u, w.cell? ⟨b, o, none⟩ = some u → b < w.heap.size := fun b o u hu => World.block_lt_of_cell? w _ hu
  have hle : Le w g w' g' := ⟨fun b o u hG hc => by rw [World.cell?_of_block (hb b (hcl b o u hc))]; exact hc,
    fun b o u hG hc => by rw [eG b (hcl b o u hc)]; exact hG, by rw [enid]; omega, fun l hl => ⟨ebuf' l (by omega), .inl ⟨epl' l (by omega), by rw [ewm], by rw [ecap]⟩⟩,
    fun b me c hG hm => by
      have hlt' := (Array.getElem?_eq_some_iff.1 hm).1
      exact ⟨by rw [eG b hlt']; exact hG, (hb b hlt').trans hm⟩⟩
  refine ⟨_, g', rfl, ⟨by rw [enid, hn, List.length_append]; rfl, fun l o hl => ?_, fun l l' b hl hl' ho ho' => ?_, fun l b hl ho => ?_, hw.tab.le hle⟩, ?_, ?_⟩
  · by_cases hln : l = g.nid
    · subst hln
      rw [List.getElem?_append_right (by omega), hn, Nat.sub_self] at hl
      cases hl
      refine ⟨ebuf, ?_, ?_, ?_⟩
      · rw [eo, epl]; exact hpp
      · intro b hbo
        rw [eo] at hbo
        exact eG0 b (by omega)
      · intro w'' hs
        rw [eo, epl]
        rw [eo] at hs
        exact hX' w' w'' _ _ h2 hs
    · have hlt : l < g.nid := by have := (List.getElem?_eq_some_iff.1 hl).1; rw [List.length_append] at this; simp at this; omega
      rw [List.getElem?_append_left (by omega)] at hl
      exact (hw.obj l o hl).keep hle (epl' l hln) (ebuf' l hln) (by rw [ewm]) (by rw [ecap]) (eo' l hln) (fun b hbo => eG b (hw.lt l b hlt hbo)) (fun b hbo => hb b (hw.lt l b hlt hbo))
  · rw [enid] at hl hl'
    by_cases h1 : l = g.nid <;> by_cases h2 : l' = g.nid
    · rw [h1, h2]
    · subst h1; rw [eo] at ho; rw [eo' l' h2] at ho'; have := hw.lt l' b (by omega) ho'; omega
    · subst h2; rw [eo] at ho'; rw [eo' l h1] at ho; have := hw.lt l b (by omega) ho; omega
    · rw [eo' l h1] at ho; rw [eo' l' h2] at ho'; exact hw.disj l l' b (by omega) (by omega) ho ho'
  · rw [enid] at hl
    by_cases h1 : l = g.nid
    · subst h1; rw [eo] at ho; exact ho.2
    · rw [eo' l h1] at ho; have := hw.lt l b (by omega) ho; omega
  · have := Rel.ptr (w := w') g' g.nid 0 (by omega) ebuf
    rw [epl, hn] at this
    exact this
  · refine ⟨hle, h3.os, h3.tape, h3.output, hsz, fun b hlt' _ => hb b hlt', fun l b hl ho hlt' => ?_, fun b hlt' _ => eG b hlt'⟩
    rw [enid] at hl
    by_cases h1 : l = g.nid
    · subst h1; rw [eo] at ho; omega
    · rw [eo' l h1] at ho; exact ⟨by omega, ho⟩
end
theorem xd_mono (d : Dk) : ∀ w p (S T : Nat → Prop), (DRep w S p d ∧ Ok d) → (∀ b, S b → T b) → DRep w T p d ∧ Ok d := fun _ _ _ _ h hs => ⟨h.1.more hs, h.2⟩
theorem xd_keep (d : Dk) : ∀ (w w' : World) p (S : Nat → Prop), (DRep w S p d ∧ Ok d) → (∀ b, S b ∧ b < w.heap.size → w'.heap[b]? = w.heap[b]?) → DRep w' (fun b => S b ∧ b < w.heap.size) p d ∧ Ok d :=
  fun _ _ _ _ h hs => ⟨(drep_lt h.1).keep fun b hb _ => hs b hb, h.2⟩
theorem lrel_cons {w : World} {g : Gh} {u : AV} {us : List AV} {cargs : Array Value} (h : LRel w g (u :: us) cargs) : ∃ (cv : Value) (cs : List Value), cargs = (cv :: cs).toArray ∧ Rel w g u cv ∧ LRel w g us cs.toArray := by
  obtain ⟨h1, h2⟩ := h
  obtain ⟨l⟩ := cargs
  cases l with
  | nil => simp at h1
  | cons cv cs => exact ⟨cv, cs, rfl, h2 0 u cv rfl rfl, by simpa using h1, fun j u v hu hv => h2 (j + 1) u v (by simpa using hu) (by simpa using hv)⟩
theorem lrelc {w : World} {g : Gh} {u : AV} {us : List AV} {cs : List Value} (h : LRel w g (u :: us) cs.toArray) : ∃ (cv : Value) (cs' : List Value), cs = cv :: cs' ∧ Rel w g u cv ∧ LRel w g us cs'.toArray := by
  obtain ⟨cv, cs', e, h1, h2⟩ := lrel_cons h
  exact ⟨cv, cs', by simpa using e, h1, h2⟩
theorem lrel_nil {w : World} {g : Gh} {cargs : Array Value} (h : LRel w g [] cargs) : cargs = #[] := by
  obtain ⟨h1, _⟩ := h
  exact Array.eq_empty_of_size_eq_zero h1
theorem rel_ptr {w : World} {g : Gh} {l off : Nat} {cv : Value} (h : Rel w g (.ptr l off) cv) : cv = .pointer (some ⟨g.pl l, off, none⟩) := by cases h; rfl
theorem rel_it {w : World} {g : Gh} {k : IntKind} {n : Int} {cv : Value} (h : Rel w g (.it k n) cv) : cv = .int k n := by cases h; rfl
theorem rel_st {w : World} {g : Gh} {l : List UInt8} {cv : Value} (h : Rel w g (.st l) cv) : cv = .string ⟨l.toArray⟩ := by cases h; rfl
theorem rel_tup2 {w : World} {g : Gh} {a b : AV} {x y : Value} (h : Rel w g a x) (h' : Rel w g b y) : Rel w g (.tup [a, b]) (.tuple #[x, y]) := by
  refine .tup _ _ _ rfl fun j u v hu hv => ?_
  match j with
  | 0 => cases hu; cases hv; exact h
  | 1 => cases hu; cases hv; exact h'
  | j + 2 => simp at hu
theorem rel_tup0 (w : World) (g : Gh) : Rel w g (.tup []) (.tuple #[]) := .tup _ _ _ rfl fun j u v hu => by simp at hu
/-- a row of numbers -/
abbrev ints (m : Mode) (ks : List Int) : AV := .sl m (ks.map (AV.it .i64))
theorem flat_ints (ks : List Int) : flat (ks.map (AV.it .i64)) = ks.map (AV.it .i64) := by
  induction ks with
  | nil => rfl
  | cons k ks ih => rw [List.map_cons, flat, List.flatMap_cons]; exact congrArg _ ih
theorem rel_ints {w : World} {g : Gh} {m : Mode} {ks : List Int} {cv : Value} (h : Rel w g (ints m ks) cv) : Kp w cv ks ∧ (0 < ks.length → ∀ b, bl cv = some b → 0 < g.G b) := by
  cases h
  rename_i A c sz cu hcm hc hsz h1 hA hr hm
  rw [flat_ints] at hA hr
  rw [List.length_map] at hc hA
  have key : ∀ j, j < ks.length → cu j = .int .i64 (ks.getD j 0) := fun j hj => by
    have := hr j (.it .i64 ks[j]) (by rw [List.getElem?_map, List.getElem?_eq_getElem hj]; rfl)
    rw [rel_it this, List.getD_eq_getElem?_getD, List.getElem?_eq_getElem hj]; rfl
  refine ⟨⟨A, c, by rw [List.length_map], hc, fun h0 => ?_⟩, fun h0 b hb => ?_⟩
  · obtain ⟨b, o, rfl, h⟩ := hA h0
    exact ⟨b, o, rfl, fun j hj => by rw [(h j (by simpa using hj)).2, key j hj]⟩
  · obtain ⟨b', o, rfl, h⟩ := hA h0
    obtain ⟨c, rfl⟩ := Nat.exists_eq_succ_of_ne_zero (show c ≠ 0 by omega)
    cases hb
    exact Nat.lt_of_le_of_lt (Nat.zero_le _) (h 0 h0).1
section
variable {d : Dk}
theorem d_append (d : Dk) (f : Int) (s : List UInt8) (hs : s.length ≤ 9223372036854775807) :
    AC Try.prog 14 [.ptr 0 0, .it .i64 f, .st s] [XD d] (.it .i64 (appendD d f s).1) [XD (appendD d f s).2] := by
  refine AC.ofFr (by kernel_rfl) (xd_mono d) (xd_keep _) fun w g S cargs hargs hbuf hn hG hSp hS hX => ?_
  obtain ⟨v0, c0, rfl, h0, hargs⟩ := lrel_cons hargs
  obtain ⟨v1, c1, rfl, h1, hargs⟩ := lrelc hargs
  obtain ⟨v2, c2, rfl, h2, hargs⟩ := lrelc hargs
  obtain rfl : c2 = [] := by simpa using lrel_nil hargs
  obtain rfl := rel_ptr h0; obtain rfl := rel_it h1; obtain rfl := rel_st h2
  refine (append_any hX.1 hX.2 hS f ⟨s.toArray⟩ (by simpa [ByteArray.size] using hs)).mono fun r w' ⟨e, hD, hF⟩ => ?_
  exact ⟨_, e, fun g' => .it _ _ _, ⟨hD, append_ok hX.2 _ _⟩, hF⟩
theorem d_flush (d : Dk) (f : Int) : AC Try.prog 34 [.ptr 0 0, .it .i64 f] [XD d] (.it .i64 (flushD d f).1) [XD (flushD d f).2] := by
  refine AC.ofFr (by kernel_rfl) (xd_mono d) (xd_keep _) fun w g S cargs hargs hbuf hn hG hSp hS hX => ?_
  obtain ⟨v0, c0, rfl, h0, hargs⟩ := lrel_cons hargs
  obtain ⟨v1, c1, rfl, h1, hargs⟩ := lrelc hargs
  obtain rfl : c1 = [] := by simpa using lrel_nil hargs
  obtain rfl := rel_ptr h0; obtain rfl := rel_it h1
  exact (flush_any hX.1 hX.2 hS f).mono fun r w' ⟨e, hD, hF⟩ => ⟨_, e, fun g' => .it _ _ _, ⟨hD, flush_ok hX.2 _⟩, hF⟩
theorem d_cut (d : Dk) (f n : Int) : AC Try.prog 32 [.ptr 0 0, .it .i64 f, .it .i64 n] [XD d] (.it .i64 (cutD d f n).1) [XD (cutD d f n).2] := by
  refine AC.ofFr (by kernel_rfl) (xd_mono d) (xd_keep _) fun w g S cargs hargs hbuf hn hG hSp hS hX => ?_
  obtain ⟨v0, c0, rfl, h0, hargs⟩ := lrel_cons hargs
  obtain ⟨v1, c1, rfl, h1, hargs⟩ := lrelc hargs
  obtain ⟨v2, c2, rfl, h2, hargs⟩ := lrelc hargs
  obtain rfl : c2 = [] := by simpa using lrel_nil hargs
  obtain rfl := rel_ptr h0; obtain rfl := rel_it h1; obtain rfl := rel_it h2
  exact (cut_any hX.1 hX.2 hS f n).mono fun r w' ⟨e, hD, hF⟩ => ⟨_, e, fun g' => .it _ _ _, ⟨hD, cut_ok hX.2 _ _⟩, hF⟩
theorem d_turn (d : Dk) (f n : Int) : AC Try.prog 38 [.ptr 0 0, .it .i64 f, .it .i64 n] [XD d] (.it .i64 (turnD d f n).1) [XD (turnD d f n).2] := by
  refine AC.ofFr (by kernel_rfl) (xd_mono d) (xd_keep _) fun w g S cargs hargs hbuf hn hG hSp hS hX => ?_
  obtain ⟨v0, c0, rfl, h0, hargs⟩ := lrel_cons hargs
  obtain ⟨v1, c1, rfl, h1, hargs⟩ := lrelc hargs
  obtain ⟨v2, c2, rfl, h2, hargs⟩ := lrelc hargs
  obtain rfl : c2 = [] := by simpa using lrel_nil hargs
  obtain rfl := rel_ptr h0; obtain rfl := rel_it h1; obtain rfl := rel_it h2
  exact (turn_any hX.1 hX.2 hS f n).mono fun r w' ⟨e, hD, hF⟩ => ⟨_, e, fun g' => .it _ _ _, ⟨hD, turn_ok hX.2 _ _⟩, hF⟩
theorem d_crash (d : Dk) (m : Mode) (ks : List Int) : AC Try.prog 23 [.ptr 0 0, ints m ks] [XD d] (.tup []) [XD (crash d ks)] := by
  refine AC.ofFr (by kernel_rfl) (xd_mono d) (xd_keep _) fun w g S cargs hargs hbuf hn hG hSp hS hX => ?_
  obtain ⟨v0, c0, rfl, h0, hargs⟩ := lrel_cons hargs
  obtain ⟨v1, c1, rfl, h1, hargs⟩ := lrelc hargs
  obtain rfl : c1 = [] := by simpa using lrel_nil hargs
  obtain rfl := rel_ptr h0
  obtain ⟨hk, hb⟩ := rel_ints h1
  exact (crash_any hX.1 hX.2 v1 ks hk (fun h b e hbe => by have := hb h b e; rw [hbe, hG] at this; omega)).mono fun r w' ⟨e, hD, hF⟩ => ⟨_, e, fun g' => rel_tup0 _ _, ⟨hD, crash_ok hX.2 _⟩, hF.more fun b e => by rw [e]; exact hSp⟩
theorem d_arm (d : Dk) (n : Int) (hn : n ≤ 9223372036854775807) (m : Mode) (ks : List Int) (hl : ks.length ≤ 1000000) : AC Try.prog 42 [.ptr 0 0, .it .i64 n, ints m ks] [XD d] (.tup []) [XD (armD d n ks)] := by
  refine AC.ofFr (by kernel_rfl) (xd_mono d) (xd_keep _) fun w g S cargs hargs hbuf _ hG hSp hS hX => ?_
  obtain ⟨v0, c0, rfl, h0, hargs⟩ := lrel_cons hargs
  obtain ⟨v1, c1, rfl, h1, hargs⟩ := lrelc hargs
  obtain ⟨v2, c2, rfl, h2, hargs⟩ := lrelc hargs
  obtain rfl : c2 = [] := by simpa using lrel_nil hargs
  obtain rfl := rel_ptr h0; obtain rfl := rel_it h1
  obtain ⟨hk, hb⟩ := rel_ints h2
  exact (arm_any hX.1 hS n v2 ks hk (fun h b e hbe => by have := hb h b e; rw [hbe, hG] at this; omega) hl).mono fun r w' ⟨e, hD, hF⟩ => ⟨_, e, fun g' => rel_tup0 _ _, ⟨hD, arm_ok hX.2 n hn _⟩, hF⟩
theorem d_lose (d : Dk) (n : Int) (hn : n ≤ 9223372036854775807) : AC Try.prog 41 [.ptr 0 0, .it .i64 n] [XD d] (.tup []) [XD (lose d n)] := by
  refine AC.ofFr (by kernel_rfl) (xd_mono d) (xd_keep _) fun w g S cargs hargs hbuf _ hG hSp hS hX => ?_
  obtain ⟨v0, c0, rfl, h0, hargs⟩ := lrel_cons hargs
  obtain ⟨v1, c1, rfl, h1, hargs⟩ := lrelc hargs
  obtain rfl : c1 = [] := by simpa using lrel_nil hargs
  obtain rfl := rel_ptr h0; obtain rfl := rel_it h1
  exact (lose_any hX.1 n hn).mono fun r w' ⟨e, hD, hF⟩ => ⟨_, e, fun g' => rel_tup0 _ _, ⟨hD, lose_ok hX.2 n hn⟩, hF.more fun b e => by rw [e]; exact hSp⟩
theorem d_start (d : Dk) : AC Try.prog 24 [.ptr 0 0] [XD d] (.tup []) [XD (bring d)] := by
  refine AC.ofFr (by kernel_rfl) (xd_mono d) (xd_keep _) fun w g S cargs hargs hbuf _ hG hSp hS hX => ?_
  obtain ⟨v0, c0, rfl, h0, hargs⟩ := lrel_cons hargs
  obtain rfl : c0 = [] := by simpa using lrel_nil hargs
  obtain rfl := rel_ptr h0
  exact (start_any hX.1).mono fun r w' ⟨e, hD, hF⟩ => ⟨_, e, fun g' => rel_tup0 _ _, ⟨hD, bring_ok hX.2⟩, hF.more fun b e => by rw [e]; exact hSp⟩
theorem d_read (d : Dk) (f : Int) : AC Try.prog 18 [.ptr 0 0, .it .i64 f] [XD d] (.tup [.st (peek d f).1, .it .i64 (peek d f).2]) [XD d] := by
  refine AC.ofFr (by kernel_rfl) (xd_mono d) (xd_keep _) fun w g S cargs hargs hbuf _ hG hSp hS hX => ?_
  obtain ⟨v0, c0, rfl, h0, hargs⟩ := lrel_cons hargs
  obtain ⟨v1, c1, rfl, h1, hargs⟩ := lrelc hargs
  obtain rfl : c1 = [] := by simpa using lrel_nil hargs
  obtain rfl := rel_ptr h0; obtain rfl := rel_it h1
  exact (read_any hX.1 f).mono fun r w' ⟨e, e'⟩ => by subst e'; exact ⟨_, e, fun g' => rel_tup2 (.st _ _) (.it _ _ _), hX, Fr.refl _ _⟩
theorem d_down (d : Dk) : AC Try.prog 26 [.ptr 0 0] [XD d] (.bo d.down) [XD d] := by
  refine AC.ofFr (by kernel_rfl) (xd_mono d) (xd_keep _) fun w g S cargs hargs hbuf _ hG hSp hS hX => ?_
  obtain ⟨v0, c0, rfl, h0, hargs⟩ := lrel_cons hargs
  obtain rfl : c0 = [] := by simpa using lrel_nil hargs
  obtain rfl := rel_ptr h0
  exact (down_any hX.1).mono fun r w' ⟨e, e'⟩ => by subst e'; exact ⟨_, e, fun g' => .bo _ _, hX, Fr.refl _ _⟩
theorem d_size (d : Dk) (f : Int) : AC Try.prog 19 [.ptr 0 0, .it .i64 f] [XD d] (.it .i64 (size d f : Int)) [XD d] := by
  refine AC.ofFr (by kernel_rfl) (xd_mono d) (xd_keep _) fun w g S cargs hargs hbuf _ hG hSp hS hX => ?_
  obtain ⟨v0, c0, rfl, h0, hargs⟩ := lrel_cons hargs
  obtain ⟨v1, c1, rfl, h1, hargs⟩ := lrelc hargs
  obtain rfl : c1 = [] := by simpa using lrel_nil hargs
  obtain rfl := rel_ptr h0; obtain rfl := rel_it h1
  exact (size_any hX.1 f).mono fun r w' ⟨e, e'⟩ => by subst e'; exact ⟨_, e, fun g' => .it _ _ _, hX, Fr.refl _ _⟩
theorem d_new : AC Try.prog 13 [] [] (.ptr 0 0) [XD dk0] := by
  refine AC.newFr (S0 := []) (by kernel_rfl) (xd_keep _) (fun w p S h => ⟨h.1.at', h.1.lt⟩) fun w g cargs hw hargs => ?_
  obtain rfl := lrel_nil hargs
  exact (new_any w _ (fun b hb => hb)).mono fun r w' ⟨p, e, hD, hF, _⟩ => ⟨p, e, ⟨hD, dk0_ok⟩, hF⟩
end
end Go.Proofs.Ytjicccjpooahoaa.Pe
