/- Numbers of places turned into others: a call's small store within its caller's. Nothing of the program. -/
import Derived.Test.YtknbnhmenohacaaPeK
namespace Go.Proofs.Ytknbnhmenohacaa.Pe
set_option linter.unusedSectionVars false
set_option linter.unusedVariables false
set_option linter.unusedSimpArgs false
open Go Go.RowKit
variable [Tab]
def Mode.ren (ρ : Nat → Nat) : Mode → Mode
  | .own l => .own (ρ l)
  | m => m
def AV.r0 (ρ : Nat → Nat) : AV → AV
  | .ptr l o => .ptr (ρ l) o
  | .mp l => .mp (ρ l)
  | .ws l o n c => .ws (ρ l) o n c
  | .sl m es => .sl (m.ren ρ) es
  | v => v
def AV.r1 (ρ : Nat → Nat) : AV → AV
  | .fn f a c => .fn f (a.map (AV.r0 ρ)) (c.map (AV.r0 ρ))
  | v => v.r0 ρ
def AV.r2 (ρ : Nat → Nat) : AV → AV
  | .agg cs => .agg (cs.map (AV.r1 ρ))
  | v => v.r1 ρ
def AV.ren (ρ : Nat → Nat) : AV → AV
  | .tup vs => .tup (vs.map (AV.r2 ρ))
  | v => v.r2 ρ
def AV.o0 (n : Nat) : AV → Bool
  | .ptr l _ => decide (l < n)
  | .mp l => decide (l < n)
  | .ws l _ _ _ => decide (l < n)
  | .sl (.own l) _ => decide (l < n)
  | .agg _ => false
  | .tup _ => false
  | .fn _ _ _ => false
  | _ => true
def AV.o1 (n : Nat) : AV → Bool
  | .fn _ a c => a.all (AV.o0 n) && c.all (AV.o0 n)
  | v => v.o0 n
def AV.o2 (n : Nat) : AV → Bool
  | .agg cs => cs.all (AV.o1 n)
  | v => v.o1 n
/-- all numbers in it are less than n -/
def AV.ok (n : Nat) : AV → Bool
  | .tup vs => vs.all (AV.o2 n)
  | v => v.o2 n
def SObj.ren (ρ : Nat → Nat) : SObj → SObj
  | .cells cs => .cells (cs.map (AV.r1 ρ))
  | .map es => .map (es.map fun p => (p.1.r1 ρ, p.2.r2 ρ))
  | o => o
def SObj.ok (n : Nat) : SObj → Bool
  | .cells cs => cs.all (AV.o1 n)
  | .map es => es.all fun p => p.1.o1 n && p.2.o2 n
  | _ => true
/-- number l of (w, g) is number ρ l of (w', g'), for the l less than n -/
structure RenOk (w : World) (g : Gh) (w' : World) (g' : Gh) (ρ : Nat → Nat) (n : Nat) : Prop where
  noid : Le w g.noid w' g'.noid
  ids : ∀ l, l < n → l < g.nid → ρ l < g'.nid ∧ g'.pl (ρ l) = g.pl l ∧ g'.buf (ρ l) = g.buf l ∧ g'.wm (ρ l) = g.wm l ∧ g'.cap (ρ l) = g.cap l
section
variable {w w' : World} {g g' : Gh} {ρ : Nat → Nat} {n : Nat}
theorem Rel.r0 (H : RenOk w g w' g' ρ n) {v : AV} {cv : Value} (h : Rel w g v cv) (hk : v.o0 n = true) : Rel w' g' (v.r0 ρ) cv := by
  cases h with
  | bo => exact .bo _ _
  | it => exact .it _ _ _
  | st => exact .st _ _
  | ot _ _ h => exact .ot _ _ h
  | junk => exact .junk _ _
  | sl _ m es A c sz cu hc hcm hsz hA h1 hr hm =>
    refine .sl _ _ es A c sz cu hc hcm hsz (fun h0 => ?_) h1 (fun j u hu => (hr j u hu).le H.noid) ?_
    · obtain ⟨b, o, rfl, hcell⟩ := hA h0
      exact ⟨b, o, rfl, fun j hj => ⟨H.noid.G b _ _ (hcell j hj).1 (hcell j hj).2, H.noid.cell b _ _ (hcell j hj).1 (hcell j hj).2⟩⟩
    · cases m with
      | ro => trivial
      | full => exact hm
      | own l =>
        have hl : l < n := by simpa [AV.o0] using hk
        obtain ⟨a, b, c', d⟩ := hm
        obtain ⟨e1, e2, e3, e4, e5⟩ := H.ids l hl a
        refine ⟨e1, by rw [e3]; exact b, by rw [e4]; exact c', ?_⟩
        rw [e2, e4, e5]; exact d
  | agg => simp [AV.o0] at hk
  | tup => simp [AV.o0] at hk
  | ptr _ l off hl hb =>
    have hln : l < n := by simpa [AV.o0] using hk
    obtain ⟨e1, e2, e3, e4, e5⟩ := H.ids l hln hl
    rw [← e2]
    exact .ptr _ _ off e1 (e3.trans hb)
  | pst _ e off b o cu hA h1 hr =>
    exact .pst _ e off b o cu (fun j hj => ⟨H.noid.G b _ _ (hA j hj).1 (hA j hj).2, H.noid.cell b _ _ (hA j hj).1 (hA j hj).2⟩) h1 fun j u hu => (hr j u hu).le H.noid
  | fn => simp [AV.o0] at hk
  | mp _ l hl hb =>
    have hln : l < n := by simpa [AV.o0] using hk
    obtain ⟨e1, e2, e3, e4, e5⟩ := H.ids l hln hl
    rw [← e2]
    exact .mp _ _ e1 (e3.trans hb)
  | ws _ l o n' c hl hb hc hm =>
    have hln : l < n := by simpa [AV.o0] using hk
    obtain ⟨e1, e2, e3, e4, e5⟩ := H.ids l hln hl
    rw [← e2]
    exact .ws _ _ o n' c e1 (e3.trans hb) hc hm
theorem map_rel {f : AV → AV} {p : AV → Bool} {vs : List AV} {arr : Array Value} (hf : ∀ u v, p u = true → Rel w g u v → Rel w' g' (f u) v) (hk : vs.all p = true)
    (h : ∀ (j : Nat) u v, vs[j]? = some u → arr[j]? = some v → Rel w g u v) : ∀ (j : Nat) u v, (vs.map f)[j]? = some u → arr[j]? = some v → Rel w' g' u v := by
  intro j u v hu hv
  rw [List.getElem?_map] at hu
  obtain ⟨u', hu', rfl⟩ := Option.map_eq_some_iff.1 hu
  exact hf u' v ((List.all_eq_true.1 hk) u' (List.mem_iff_getElem?.2 ⟨j, hu'⟩)) (h j u' v hu' hv)
theorem Rel.r1 (H : RenOk w g w' g' ρ n) {v : AV} {cv : Value} (h : Rel w g v cv) (hk : v.o1 n = true) : Rel w' g' (v.r1 ρ) cv := by
  cases v with
  | fn f a c =>
    simp only [AV.o1, Bool.and_eq_true] at hk
    cases h with
    | fn _ _ _ _ fa ca hf hc hrf hrc =>
      exact .fn _ f _ _ fa ca (by simpa using hf) (by simpa using hc) (map_rel (fun u v hp hr => hr.r0 H hp) hk.1 hrf) (map_rel (fun u v hp hr => hr.r0 H hp) hk.2 hrc)
  | _ => exact Rel.r0 H h hk
theorem Rel.r2 (H : RenOk w g w' g' ρ n) {v : AV} {cv : Value} (h : Rel w g v cv) (hk : v.o2 n = true) : Rel w' g' (v.r2 ρ) cv := by
  cases v with
  | agg cs =>
    cases h with
    | agg _ _ arr hn h1 hr => exact .agg _ _ arr (by simpa using hn) h1 (map_rel (fun u v hp hr => hr.r1 H hp) hk hr)
  | _ => exact Rel.r1 H h hk
theorem Rel.ren (H : RenOk w g w' g' ρ n) {v : AV} {cv : Value} (h : Rel w g v cv) (hk : v.ok n = true) : Rel w' g' (v.ren ρ) cv := by
  cases v with
  | tup vs =>
    cases h with
    | tup _ _ arr hn hr => exact .tup _ _ arr (by simpa using hn) (map_rel (fun u v hp hr => hr.r2 H hp) hk hr)
  | _ => exact Rel.r2 H h hk
/-- number ρ l of (w, g) is number l of (w', g') -/
structure UnOk (w : World) (g : Gh) (w' : World) (g' : Gh) (ρ : Nat → Nat) (n : Nat) : Prop where
  noid : Le w g.noid w' g'.noid
  ids : ∀ l, l < n → l < g'.nid ∧ g'.pl l = g.pl (ρ l) ∧ g'.buf l = g.buf (ρ l) ∧ g'.wm l = g.wm (ρ l) ∧ g'.cap l = g.cap (ρ l)
theorem Rel.u0 (H : UnOk w g w' g' ρ n) {v : AV} {cv : Value} (h : Rel w g (v.r0 ρ) cv) (hk : v.o0 n = true) : Rel w' g' v cv := by
  cases v with
  | bo b => cases h; exact .bo _ _
  | it k m => cases h; exact .it _ _ _
  | st l => cases h; exact .st _ _
  | ot v => cases h with | ot _ _ h => exact .ot _ _ h
  | junk => exact .junk _ _
  | sl m es =>
    cases h with
    | sl _ _ _ A c sz cu hc hcm hsz hA h1 hr hm =>
      refine .sl _ _ es A c sz cu hc hcm hsz (fun h0 => ?_) h1 (fun j u hu => (hr j u hu).le H.noid) ?_
      · obtain ⟨b, o, rfl, hcell⟩ := hA h0
        exact ⟨b, o, rfl, fun j hj => ⟨H.noid.G b _ _ (hcell j hj).1 (hcell j hj).2, H.noid.cell b _ _ (hcell j hj).1 (hcell j hj).2⟩⟩
      · cases m with
        | ro => trivial
        | full => exact hm
        | own l =>
          have hl : l < n := by simpa [AV.o0] using hk
          obtain ⟨a, b, c', d⟩ := hm
          obtain ⟨e1, e2, e3, e4, e5⟩ := H.ids l hl
          refine ⟨e1, by rw [e3]; exact b, by rw [e4]; exact c', ?_⟩
          rw [e2, e4, e5]; exact d
  | agg => simp [AV.o0] at hk
  | tup => simp [AV.o0] at hk
  | fn => simp [AV.o0] at hk
  | ptr l off =>
    have hln : l < n := by simpa [AV.o0] using hk
    obtain ⟨e1, e2, e3, e4, e5⟩ := H.ids l hln
    cases h with
    | ptr _ _ _ hl hb =>
      rw [← e2]
      exact .ptr _ _ off e1 (e3.trans hb)
  | pst e off =>
    cases h with
    | pst _ _ _ b o cu hA h1 hr =>
      exact .pst _ e off b o cu (fun j hj => ⟨H.noid.G b _ _ (hA j hj).1 (hA j hj).2, H.noid.cell b _ _ (hA j hj).1 (hA j hj).2⟩) h1 fun j u hu => (hr j u hu).le H.noid
  | mp l =>
    have hln : l < n := by simpa [AV.o0] using hk
    obtain ⟨e1, e2, e3, e4, e5⟩ := H.ids l hln
    cases h with
    | mp _ _ hl hb =>
      rw [← e2]
      exact .mp _ _ e1 (e3.trans hb)
  | ws l o n' c =>
    have hln : l < n := by simpa [AV.o0] using hk
    obtain ⟨e1, e2, e3, e4, e5⟩ := H.ids l hln
    cases h with
    | ws _ _ _ _ _ hl hb hc hm =>
      rw [← e2]
      exact .ws _ _ o n' c e1 (e3.trans hb) hc hm
theorem unmap_rel {f : AV → AV} {p : AV → Bool} {vs : List AV} {arr : Array Value} (hf : ∀ u v, p u = true → Rel w g (f u) v → Rel w' g' u v) (hk : vs.all p = true)
    (h : ∀ (j : Nat) u v, (vs.map f)[j]? = some u → arr[j]? = some v → Rel w g u v) : ∀ (j : Nat) u v, vs[j]? = some u → arr[j]? = some v → Rel w' g' u v := by
  intro j u v hu hv
  exact hf u v ((List.all_eq_true.1 hk) u (List.mem_iff_getElem?.2 ⟨j, hu⟩)) (h j (f u) v (by rw [List.getElem?_map, hu]; rfl) hv)
theorem Rel.u1 (H : UnOk w g w' g' ρ n) {v : AV} {cv : Value} (h : Rel w g (v.r1 ρ) cv) (hk : v.o1 n = true) : Rel w' g' v cv := by
  cases v with
  | fn f a c =>
    simp only [AV.o1, Bool.and_eq_true] at hk
    cases h with
    | fn _ _ _ _ fa ca hf hc hrf hrc =>
      exact .fn _ f _ _ fa ca (by simpa using hf) (by simpa using hc) (unmap_rel (fun u v hp hr => Rel.u0 H hr hp) hk.1 hrf) (unmap_rel (fun u v hp hr => Rel.u0 H hr hp) hk.2 hrc)
  | _ => exact Rel.u0 H h hk
theorem Rel.u2 (H : UnOk w g w' g' ρ n) {v : AV} {cv : Value} (h : Rel w g (v.r2 ρ) cv) (hk : v.o2 n = true) : Rel w' g' v cv := by
  cases v with
  | agg cs =>
    cases h with
    | agg _ _ arr hn h1 hr => exact .agg _ _ arr (by simpa using hn) h1 (unmap_rel (fun u v hp hr => Rel.u1 H hr hp) hk hr)
  | _ => exact Rel.u1 H h hk
theorem Rel.unren (H : UnOk w g w' g' ρ n) {v : AV} {cv : Value} (h : Rel w g (v.ren ρ) cv) (hk : v.ok n = true) : Rel w' g' v cv := by
  cases v with
  | tup vs =>
    cases h with
    | tup _ _ arr hn hr => exact .tup _ _ arr (by simpa using hn) (unmap_rel (fun u v hp hr => Rel.u2 H hr hp) hk hr)
  | _ => exact Rel.u2 H h hk
end
/-- the ghost seen through a list of numbers -/
def Gh.sub (g : Gh) (κ : List Nat) : Gh :=
  { G := g.G, pl := fun i => g.pl (κ.getD i 0), own := fun i => g.own (κ.getD i 0), nid := κ.length, buf := fun i => g.buf (κ.getD i 0), wm := fun i => g.wm (κ.getD i 0), cap := fun i => g.cap (κ.getD i 0) }
def idx (κ : List Nat) (i : Nat) : Nat := κ.getD i 0
theorem un_sub (w : World) (g : Gh) (κ : List Nat) : UnOk w g w (g.sub κ) (idx κ) κ.length :=
  ⟨⟨fun _ _ _ _ h => h, fun _ _ _ h _ => h, Nat.le_refl _, fun l hl => absurd hl (Nat.not_lt_zero _)⟩, fun l hl => ⟨hl, rfl, rfl, rfl, rfl⟩⟩
theorem ObjOk.un {w : World} {g : Gh} {κ : List Nat} {i : Nat} (hi : i < κ.length) {o : SObj} (h : ObjOk w g (idx κ i) (o.ren (idx κ))) (hk : o.ok κ.length = true) : ObjOk w (g.sub κ) i o := by
  cases o with
  | cells cs =>
    obtain ⟨h1, h2, h3, arr, T, fr, h4, h5, h6, h7, h8⟩ := h
    refine ⟨h1, h2, h3, arr, T, fr, h4, h5, by simpa using h6, h7, ?_⟩
    exact unmap_rel (fun u v hp hr => Rel.u1 (un_sub w g κ) hr hp) hk h8
  | buf n e sz => exact h
  | ext X => exact h
  | map es =>
    obtain ⟨h1, h2, h3, me, clock, h4, h5, h6, h7, h8⟩ := h
    refine ⟨h1, h2, h3, me, clock, h4, by simpa using h5, h6, h7, fun j u x hu hx => ?_⟩
    have hp := List.all_eq_true.1 hk u (List.mem_of_getElem? hu)
    simp only [Bool.and_eq_true] at hp
    have := h8 j (u.1.r1 (idx κ), u.2.r2 (idx κ)) x (by rw [List.getElem?_map, hu]; rfl) hx
    exact ⟨Rel.u1 (un_sub w g κ) this.1 hp.1, Rel.u2 (un_sub w g κ) this.2 hp.2⟩
  | siter s pos => exact h
  | dead => trivial
/-- a store seen through a list of numbers -/
structure SubOk (κ : List Nat) (S S' : Store) : Prop where
  nodup : κ.Nodup
  len : S'.length = κ.length
  ok : ∀ i o, S'[i]? = some o → o.ok κ.length = true ∧ S[idx κ i]? = some (o.ren (idx κ))
theorem idx_inj {κ : List Nat} (h : κ.Nodup) {i j : Nat} (hi : i < κ.length) (hj : j < κ.length) (e : idx κ i = idx κ j) : i = j := by
  unfold idx at e
  rw [List.getD_eq_getElem?_getD, List.getD_eq_getElem?_getD, List.getElem?_eq_getElem hi, List.getElem?_eq_getElem hj] at e
  have e' : κ[i] = κ[j] := by simpa using e
  have hp := List.pairwise_iff_getElem.1 h
  rcases Nat.lt_trichotomy i j with hij | hij | hij
  · exact absurd e' (hp i j hi hj hij)
  · exact hij
  · exact absurd e'.symm (hp j i hj hi hij)
theorem WF.sub {w : World} {g : Gh} {S S' : Store} {κ : List Nat} (h : WF w g S) (hs : SubOk κ S S') : WF w (g.sub κ) S' := by
  have hlt : ∀ i, i < κ.length → idx κ i < g.nid := by
    intro i hi
    have hi' : i < S'.length := by rw [hs.len]; exact hi
    have h1 : S'[i]? = some S'[i] := List.getElem?_eq_getElem hi'
    have h2 := (hs.ok i _ h1).2
    rw [h.nid]
    exact (List.getElem?_eq_some_iff.1 h2).1
  refine ⟨hs.len.symm, fun i o hi => ?_, fun i j b hi hj hb hb' => ?_, fun i b hi hb => h.lt (idx κ i) b (hlt i hi) hb, h.tab⟩
  · have hil : i < κ.length := by rw [← hs.len]; exact (List.getElem?_eq_some_iff.1 hi).1
    obtain ⟨h1, h2⟩ := hs.ok i o hi
    exact (h.obj _ _ h2).un hil h1
  · exact idx_inj hs.nodup hi hj (h.disj _ _ b (hlt i hi) (hlt j hj) hb hb')
end Go.Proofs.Ytknbnhmenohacaa.Pe
