/- Words for memory: a slice that reads as a list of cells; a slice that the call owns and may append to; appending to it; strings made of bytes and bytes of strings. Nothing of the program. -/
import Derived.Test.YthbpbkbjdfcnjaaGreatDoorOps
import Derived.WalkKit
import Derived.ProofKit
import Derived.WalkSpells
import Derived.WalkLawsBesides
import Derived.Laws.OwnMore
import Derived.Laws.IdiomStrings
import Derived.Deep.Draws
import Derived.Deep.OwnRows
import Derived.StillTailTactics
set_option linter.unusedSectionVars false
set_option linter.unusedVariables false
set_option linter.unusedSimpArgs false
namespace Go.Proofs.YthbpbkbjdfcnjaaGreatDoor
open Go Go.RowKit
theorem block_add (a : Addr) (n : Nat) : (a.add n).block = a.block := by unfold Addr.add; split <;> rfl
theorem add_add (a : Addr) (i j : Nat) : (a.add i).add j = a.add (i + j) := by
 unfold Addr.add
 by_cases hi : i = 0 <;> by_cases hj : j = 0 <;> simp [hi, hj, Nat.add_assoc]
theorem belowDrewN {B : Nat} {a w : World} (h : Below B a w) (n : Nat) : Below B a (w.drewN n) := ⟨h.os, h.tape, h.output, h.size, h.block⟩
theorem grownDrew {w w' : World} {row : Option Nat} (h : w.grownBy w' row) : w.grownBy w'.drew row := ⟨h.os, h.tape, h.output, h.size, h.block⟩
def ElemOk (P : Program) (t e : TypeId) (size bytes : Nat) : Prop :=
 P.underlying t = some (.slice e) ∧ 0 < size ∧ ∃ i z, P.info? e = some i ∧ i.zero = some z ∧ i.size = size ∧ i.bytes = bytes ∧ z.cells.size = size
theorem ElemOk.mk' {P : Program} {t e : TypeId} {size bytes : Nat} {z : Value} (ht : P.underlying t = some (.slice e))
  (hinfo : (P.info? e).map (fun i => (i.zero, i.size, i.bytes)) = some (some z, size, bytes)) (hz : z.cells.size = size) (h0 : 0 < size) : ElemOk P t e size bytes := by
 obtain ⟨i, hi, h1⟩ := Option.map_eq_some_iff.1 hinfo
 simp only [Prod.mk.injEq] at h1
 exact ⟨ht, h0, i, z, hi, h1.1, h1.2.1, h1.2.2, hz⟩
def Rd (w : World) (B size : Nat) (v : Value) (xs : List Value) : Prop :=
 ∃ A n c, v = .slice A n c ∧ n ≤ c ∧ xs.length = n * size ∧ (0 < n → ∃ ad, A = some ad ∧ ad.block < B ∧ ∀ j u, xs[j]? = some u → w.cell? (ad.add j) = some u)
section
variable {w w' : World} {B B' size : Nat} {v : Value} {xs : List Value}
theorem Rd.nil (w : World) (B size : Nat) : Rd w B size (.slice none 0 0) [] := ⟨none, 0, 0, rfl, Nat.le_refl _, by simp, fun h => absurd h (by omega)⟩
theorem Rd.keep (h : Rd w B size v xs) (hk : ∀ p : Addr, p.block < B → w'.cell? p = w.cell? p) : Rd w' B size v xs := by
 obtain ⟨A, n, c, hv, hc, hl, hr⟩ := h
 refine ⟨A, n, c, hv, hc, hl, fun hn => ?_⟩
 obtain ⟨ad, e, hb, hcell⟩ := hr hn
 exact ⟨ad, e, hb, fun j u hu => (hk _ (by rw [block_add]; exact hb)).trans (hcell j u hu)⟩
theorem Rd.more (h : Rd w B size v xs) (hB : B ≤ B') : Rd w B' size v xs := by
 obtain ⟨A, n, c, hv, hc, hl, hr⟩ := h
 refine ⟨A, n, c, hv, hc, hl, fun hn => ?_⟩
 obtain ⟨ad, e, hb, hcell⟩ := hr hn
 exact ⟨ad, e, by omega, hcell⟩
theorem Rd.below (h : Rd w B size v xs) (hb : Below B w w') : Rd w' B size v xs := h.keep fun _ hp => hb.cell hp
theorem Rd.drew (h : Rd w B size v xs) : Rd w.drew B size v xs := h
theorem Rd.drewN (h : Rd w B size v xs) (k : Nat) : Rd (w.drewN k) B size v xs := h
theorem Rd.alloc (h : Rd w B size v xs) (hB : B ≤ w.heap.size) (o : Obj) : Rd (w.alloc o) B size v xs := h.keep fun p hp => World.cell?_alloc_lt w o p (by omega)
theorem Rd.setCell (h : Rd w B size v xs) {p : Addr} (hB : B ≤ p.block) (u : Value) : Rd (w.setCell p u) B size v xs :=
 h.keep fun q hq => World.cell?_setCell_other w p q u (fun e => by subst e; omega)
theorem Rd.grown (h : Rd w B size v xs) {row : Option Nat} (hg : w.grownBy w' row) (hB : B ≤ w.heap.size) (hr : ∀ g, row = some g → B ≤ g) : Rd w' B size v xs :=
 h.keep fun p hp => World.cell?_of_block (hg.block p.block (by omega) (fun e => by have := hr _ e.symm; omega))
theorem Rd.len (h : Rd w B 1 v xs) : ∃ A c, v = .slice A xs.length c ∧ xs.length ≤ c := by
 obtain ⟨A, n, c, hv, hc, hl, _⟩ := h
 obtain rfl : xs.length = n := by omega
 exact ⟨A, c, hv, hc⟩
theorem Rd.open1 (h : Rd w B 1 v xs) : ∃ A c, v = .slice A xs.length c ∧ xs.length ≤ c ∧ ∀ k, k < xs.length → ∃ ad, A = some ad ∧ ad.block < B ∧ ∀ j u, xs[j]? = some u → w.cell? (ad.add j) = some u := by
 obtain ⟨A, n, c, hv, hc, hl, hr⟩ := h
 obtain rfl : xs.length = n := by omega
 exact ⟨A, c, hv, hc, fun k hk => hr (by omega)⟩
end
def Own (w : World) (base : Nat) (e : TypeId) (size : Nat) (v : Value) (xs : List Value) : Prop :=
 (v = .slice none 0 0 ∧ xs = []) ∨
 ∃ g n cap cur fr, v = .slice (some ⟨g, 0, none⟩) n cap ∧ base ≤ g ∧ w.heap[g]? = some (.cells cur e fr) ∧ (fr.2 ≤ fr.1 ∨ cur.size ≤ fr.1) ∧ n ≤ cap ∧ cap ≤ maxLen ∧ cur.size = cap * size ∧ xs.length = n * size ∧ cur.toList.take (n * size) = xs
section
variable {w w' : World} {base base' size : Nat} {e : TypeId} {v : Value} {xs : List Value}
theorem Own.nil (w : World) (base : Nat) (e : TypeId) (size : Nat) : Own w base e size (.slice none 0 0) [] := .inl ⟨rfl, rfl⟩
theorem Own.block (h : Own w base e size v xs) : ∀ g, v.ownBlock = some g → base ≤ g ∧ g < w.heap.size := by
 rcases h with ⟨rfl, _⟩ | ⟨g, n, cap, cur, fr, rfl, hb, hg, _⟩
 ·intro g h; cases h
 ·intro g' h
  obtain rfl : g = g' := by simpa [Value.ownBlock] using h
  exact ⟨hb, (Array.getElem?_eq_some_iff.1 hg).1⟩
theorem Own.keep (h : Own w base e size v xs) (hk : ∀ g, v.ownBlock = some g → w'.heap[g]? = w.heap[g]?) : Own w' base e size v xs := by
 rcases h with h | ⟨g, n, cap, cur, fr, rfl, hb, hg, hr⟩
 ·exact .inl h
 ·exact .inr ⟨g, n, cap, cur, fr, rfl, hb, (hk g rfl).trans hg, hr⟩
theorem Own.grown {row : Option Nat} (h : Own w base e size v xs) (hg : w.grownBy w' row) (hne : ∀ g, v.ownBlock = some g → row ≠ some g) : Own w' base e size v xs :=
 h.keep fun g hgb => hg.block g (h.block g hgb).2 (fun e => hne g hgb e.symm)
theorem Own.below {B : Nat} (h : Own w base e size v xs) (hb : Below B w w') (hB : w.heap.size ≤ B) : Own w' base e size v xs :=
 h.keep fun g hgb => hb.block g (by have := (h.block g hgb).2; omega)
theorem Own.drew (h : Own w base e size v xs) : Own w.drew base e size v xs := h
theorem Own.drewN (h : Own w base e size v xs) (k : Nat) : Own (w.drewN k) base e size v xs := h
theorem Own.alloc (h : Own w base e size v xs) (o : Obj) : Own (w.alloc o) base e size v xs :=
 h.keep fun g hgb => heap_alloc_old w o (h.block g hgb).2
theorem Own.setCell (h : Own w base e size v xs) {p : Addr} (hp : v.ownBlock ≠ some p.block) (u : Value) : Own (w.setCell p u) base e size v xs :=
 h.keep fun g hgb => Below.heap_setCell w p u g (fun e => hp (by rw [hgb, e]))
theorem Own.less (h : Own w base e size v xs) (hb : base' ≤ base) : Own w base' e size v xs := by
 rcases h with h | ⟨g, n, cap, cur, fr, rfl, hbg, hr⟩
 ·exact .inl h
 ·exact .inr ⟨g, n, cap, cur, fr, rfl, by omega, hr⟩
theorem Own.rd (h : Own w base e size v xs) : Rd w w.heap.size size v xs := by
 rcases h with ⟨rfl, rfl⟩ | ⟨g, n, cap, cur, fr, rfl, hb, hg, hfr, hnc, hcm, hcs, hl, htake⟩
 ·exact Rd.nil _ _ _
 ·refine ⟨_, n, cap, rfl, hnc, hl, fun _ => ⟨_, rfl, (Array.getElem?_eq_some_iff.1 hg).1, fun j u hu => ?_⟩⟩
  rw [Addr.add_lit]
  simp only [Nat.zero_add]
  have hc := cell_of_row w g j cur e fr hg
  rw [hc]
  rw [← htake, List.getElem?_take] at hu
  split at hu
  ·simpa using hu
  ·cases hu
theorem Own.made {cur : Array Value} {cap : Nat} (hb : base ≤ w.heap.size) (hm : cap ≤ maxLen) (hs : cur.size = cap * size) :
  Own (w.alloc (.cells cur e)) base e size (.slice (some ⟨w.heap.size, 0, none⟩) 0 cap) [] :=
 .inr ⟨w.heap.size, 0, cap, cur, (0, 0), rfl, hb, heap_alloc_new w _, .inl (by simp), by omega, hm, hs, by simp, by simp⟩
theorem Own.lit (w : World) (us : List Value) (n : Nat) (hb : base ≤ w.heap.size) (hm : n ≤ maxLen) (hl : us.length = n * size) :
  Own (w.alloc (.cells us.toArray e)) base e size (.slice (some ⟨w.heap.size, 0, none⟩) n n) us :=
 .inr ⟨w.heap.size, n, n, us.toArray, (0, 0), rfl, hb, heap_alloc_new w _, .inl (by simp), Nat.le_refl _, hm, by simpa using hl, hl, by rw [← hl]; simp⟩
theorem Rd.lit (w : World) (us : List Value) (n : Nat) (hl : us.length = n * size) : Rd (w.alloc (.cells us.toArray e)) (w.heap.size + 1) size (.slice (some ⟨w.heap.size, 0, none⟩) n n) us := by
 refine ⟨_, n, n, rfl, Nat.le_refl _, hl, fun _ => ⟨_, rfl, by simp, fun j u hu => ?_⟩⟩
 rw [Addr.add_lit]
 simp only [Nat.zero_add]
 rw [cell_of_row _ _ j us.toArray e (0, 0) (heap_alloc_new w _)]
 simpa using hu
end
section
variable {P : Program}
theorem storeCells_fr (g o : Nat) (t : TypeId) (fr : Nat × Nat) : ∀ (vs : List Value) (i : Nat) (cur : Array Value) (w : World), w.heap[g]? = some (.cells cur t fr) → (fr.2 ≤ fr.1 ∨ cur.size ≤ fr.1) → o + i + vs.length ≤ cur.size → (∀ v ∈ vs, v.oneCell' = true) →
  (storeCells ⟨g, o, none⟩ vs i).run P w = .ok () (w.setRow g (cur.toList.take (o + i) ++ vs ++ cur.toList.drop (o + i + vs.length)).toArray)
 | [], i, cur, w, hg, _, _, _ => by
  simp only [storeCells, List.append_nil, List.length_nil, Nat.add_zero, List.take_append_drop, Array.toArray_toList]
  rw [setRow_self w g cur t fr hg]
  rfl
 | v :: rest, i, cur, w, hg, hfr, hl, h1 => by
  have hi : o + i < cur.size := by simp at hl; omega
  have hadd : (⟨g, o, none⟩ : Addr).add i = ⟨g, o + i, none⟩ := Addr.add_lit g o i
  have hcell : w.cell? ⟨g, o + i, none⟩ = some cur[o + i] := by simp [World.cell?, hg, hi]
  have hfro : w.frozen? ⟨g, o + i, none⟩ = false := by
   simp only [World.frozen?, hg, Bool.and_eq_false_iff, decide_eq_false_iff_not]
   omega
  have hst : (store ((⟨g, o, none⟩ : Addr).add i) v).run P w = .ok () (w.setRow g (cur.setIfInBounds (o + i) v)) := by
   rw [hadd, run_store P w _ v _ (h1 v (by simp)), hcell]
   simp [hfro, setCell_eq_setRow w g (o + i) cur t fr v hg]
  have ih := storeCells_fr g o t fr rest (i + 1) (cur.setIfInBounds (o + i) v) (w.setRow g (cur.setIfInBounds (o + i) v)) (setRow_heap w g cur _ t _ hg) (by simpa using hfr) (by simp at hl ⊢; omega) (fun x hx => h1 x (by simp [hx]))
  simp only [storeCells, Sem.run_bind, hst, Result.andThen_ok, ih, setRow_setRow]
  congr 3
  have e := list_seg_step cur.toList (o + i) v rest (by simp at hl ⊢; omega)
  simpa [Array.toList_setIfInBounds, Nat.add_assoc] using e
theorem append_room_fr (w : World) (t ty e : TypeId) (i : TypeInfo) (ht : P.underlying t = some (.slice e)) (hi : P.info? e = some i)
  (g sLen sCap : Nat) (cur : Array Value) (fr : Nat × Nat) (hg : w.heap[g]? = some (.cells cur e fr)) (hfr : fr.2 ≤ fr.1 ∨ cur.size ≤ fr.1)
  (a : Addr) (m c : Nat) (news : List Value) (hl : news.length = m * i.size) (hnews : ∀ j u, news[j]? = some u → w.cell? (a.add j) = some u) (h1 : ∀ u ∈ news, u.oneCell' = true)
  (hroom : sLen + m ≤ sCap) (hfit : sLen * i.size + news.length ≤ cur.size) :
  (Builtin.append_ #[t, t] ty #[.slice (some ⟨g, 0, none⟩) sLen sCap, .slice (some a) m c]).run P w =
   .ok (.slice (some ⟨g, 0, none⟩) (sLen + m) sCap) (w.setRow g (cur.toList.take (sLen * i.size) ++ news ++ cur.toList.drop (sLen * i.size + news.length)).toArray) := by
 have hf := run_firstCells_some (P := P) w i.size m a m c news hl hnews
 have hst := storeCells_fr (P := P) g (sLen * i.size) e fr news 0 cur w hg hfr (by simpa using hfit) h1
 simp only [Nat.add_zero] at hst
 simp [Builtin.append_, run_underlying ht, sizeOf, typeInfo, hi, Builtin.lenOf, hroom, hf, Addr.add_lit, hst]
theorem append_none (w : World) (t ty e : TypeId) (i : TypeInfo) (base : Nat) (ht : P.underlying t = some (.slice e)) (hi : P.info? e = some i)
  (v : Value) (xs : List Value) (hown : Own w base e i.size v xs) (c : Nat) : (Builtin.append_ #[t, t] ty #[v, .slice none 0 c]).run P w = .ok v w := by
 rcases hown with ⟨rfl, rfl⟩ | ⟨g, n, cap, cur, fr, rfl, hb, hg, hfr, hnc, _⟩
 ·simp [Builtin.append_, run_underlying ht, sizeOf, typeInfo, hi, Builtin.lenOf, Builtin.firstCells]
 ·simp [Builtin.append_, run_underlying ht, sizeOf, typeInfo, hi, Builtin.lenOf, Builtin.firstCells, hnc, storeCells]
theorem append_run (w : World) (ty : TypeId) {t e : TypeId} {size bytes base B : Nat} (hE : ElemOk P t e size bytes) {v x : Value} {xs us : List Value} (hown : Own w base e size v xs)
  (hr : Rd w B size x us) (h1 : ∀ u ∈ us, u.oneCell' = true) (hbytes : (xs.length + us.length) * bytes ≤ 140737488355328) (h63 : xs.length + us.length ≤ 140737488355328) (hbase : base ≤ w.heap.size) :
  ∃ v' w', (Builtin.append_ #[t, t] ty #[v, x]).run P w = .ok v' w' ∧ Own w' base e size v' (xs ++ us) ∧ w.grownBy w' v.ownBlock ∧
   (v'.ownBlock = v.ownBlock ∨ v'.ownBlock = some w.heap.size) := by
 obtain ⟨ht, hsz, i, z, hi, hz, rfl, rfl, hzs⟩ := hE
 obtain ⟨A, m, c, rfl, hmc, hlu, hread⟩ := hr
 have hmu : m ≤ us.length := by rw [hlu]; exact Nat.le_mul_of_pos_right _ hsz
 rcases Nat.eq_zero_or_pos m with hm0 | hmp
 ·
  subst hm0
  have hun : us = [] := List.eq_nil_of_length_eq_zero (by simpa using hlu)
  subst hun
  refine ⟨v, w, ?_, by simpa using hown, ⟨rfl, rfl, rfl, Nat.le_refl _, fun _ _ _ => rfl⟩, .inl rfl⟩
  rcases A with _ | ad
  ·exact append_none w t ty e i base ht hi v xs hown c
  ·rcases hown with ⟨rfl, rfl⟩ | ⟨g, n, cap, cur, fr, rfl, hb, hg, hfr, hnc, _⟩
   ·simp [Builtin.append_, run_underlying ht, sizeOf, typeInfo, hi, Builtin.lenOf, Builtin.firstCells, loadCells, loadCellsFrom]
   ·simp [Builtin.append_, run_underlying ht, sizeOf, typeInfo, hi, Builtin.lenOf, Builtin.firstCells, loadCells, loadCellsFrom, hnc, storeCells]
 obtain ⟨ad, rfl, hadB, hnews⟩ := hread hmp
 have grown : ∀ (n old : Nat), xs.length = n * i.size → n + m ≤ 140737488355328 → old < n + m → ∀ (row : Option Nat),
   Own (w.drew.alloc (.cells (xs.toArray ++ us.toArray ++ Builtin.zeroCells z.cells (grownCap w (n + m) old e - (n + m))) e)) base e i.size
    (.slice (some ⟨w.heap.size, 0, none⟩) (n + m) (grownCap w (n + m) old e)) (xs ++ us) ∧
   w.grownBy (w.drew.alloc (.cells (xs.toArray ++ us.toArray ++ Builtin.zeroCells z.cells (grownCap w (n + m) old e - (n + m))) e)) row := by
  intro n old hxl hnm ho row
  have hge := grownCap_ge w (n + m) old e
  have hcm : grownCap w (n + m) old e ≤ maxLen := grownCap_le_maxLen w (n + m) old e (by simp only [maxLen]; omega)
  have hlen : (xs ++ us).length = (n + m) * i.size := by rw [List.length_append, hxl, hlu, Nat.add_mul]
  refine ⟨.inr ⟨w.heap.size, n + m, _, _, (0, 0), rfl, hbase, heap_alloc_new w.drew _, .inl (by simp), hge, hcm, ?_, hlen, ?_⟩, ⟨rfl, rfl, rfl, by simp, fun k hk _ => heap_alloc_old w.drew _ hk⟩⟩
  ·simp only [Array.size_append, List.size_toArray, size_zeroCells, hzs, hxl, hlu, ← Nat.add_mul]
   congr 1
   omega
  ·simp only [Array.toList_append, List.append_assoc]
   rw [← List.append_assoc, ← hlen]
   exact List.take_left
 rcases hown with ⟨rfl, rfl⟩ | ⟨g, n, cap, cur, fr, rfl, hbg, hg, hfr, hnc, hcm, hcs, hxl, htake⟩
 ·have hb : m * i.bytes ≤ 140737488355328 := Nat.le_trans (Nat.mul_le_mul_right _ (by omega)) hbytes
  have hrn := run_append_nil (P := P) w t ty e i z ht hi hz ad m c us hlu hnews hmp (by simp at h63; omega) (by omega)
  have hgr := grown 0 0 (by simp) (by simp at h63; omega) (by omega) (Value.ownBlock (.slice none 0 0))
  simp only [Nat.zero_add, List.nil_append, Array.empty_append] at hgr ⊢
  exact ⟨_, _, hrn, hgr.1, hgr.2, .inr rfl⟩
 ·have hnx : n ≤ xs.length := by rw [hxl]; exact Nat.le_mul_of_pos_right _ hsz
  have hlen : (xs ++ us).length = (n + m) * i.size := by rw [List.length_append, hxl, hlu, Nat.add_mul]
  by_cases hroom : n + m ≤ cap
  ·have hfit : n * i.size + us.length ≤ cur.size := by rw [hlu, hcs, ← Nat.add_mul]; exact Nat.mul_le_mul_right _ hroom
   have hrr := append_room_fr (P := P) w t ty e i ht hi g n cap cur fr hg hfr ad m c us hlu hnews h1 hroom hfit
   refine ⟨_, _, hrr, .inr ⟨g, n + m, cap, _, fr, rfl, hbg, setRow_heap w g cur _ e _ hg, ?_, hroom, hcm, ?_, hlen, ?_⟩, ⟨rfl, rfl, rfl, by simp, fun k _ hk => setRow_other w g k _ (fun e => hk (by simp [Value.ownBlock, e]))⟩, .inl rfl⟩
   ·rcases hfr with h | h
    ·exact .inl h
    ·refine .inr ?_
     simp only [List.size_toArray, List.length_append, List.length_take, List.length_drop, Array.length_toList]
     omega
   ·simp only [List.size_toArray, List.length_append, List.length_take, List.length_drop, Array.length_toList]
    omega
   ·simp only [htake, ← hlen]
    exact List.take_left
  ·have holds : ∀ j u, xs[j]? = some u → w.cell? ((⟨g, 0, none⟩ : Addr).add j) = some u := by
    intro j u hu
    rw [Addr.add_lit]
    simp only [Nat.zero_add]
    rw [cell_of_row w g j cur e fr hg]
    rw [← htake, List.getElem?_take] at hu
    split at hu
    ·simpa using hu
    ·cases hu
   have hb : (n + m) * i.bytes ≤ 140737488355328 := Nat.le_trans (Nat.mul_le_mul_right _ (by omega)) hbytes
   have hrg := run_append_grow (P := P) w t ty e i z ht hi hz ⟨g, 0, none⟩ n cap xs hxl holds ad m c us hlu hnews (by omega) (by omega) (growslice_fits (by omega) hb)
   have hgr := grown n cap hxl (by omega) (by omega) (Value.ownBlock (.slice (some ⟨g, 0, none⟩) n cap))
   exact ⟨_, _, hrg, hgr.1, hgr.2, .inr rfl⟩
theorem wp_ap {o : Oper} {a : Act} {K : Act → World → Prop} {Q : Exit → Act → World → Prop} (w : World) (s x : Operand) (t : TypeId)
  (ho : o.op = .call { callee := .builtin .append, args := #[s, x], argTypes := #[t, t] })
  {e : TypeId} {size bytes base B : Nat} (hE : ElemOk P t e size bytes) {v xv : Value} {xs us : List Value} (hown : Own w base e size v xs) (hs : a.eval s = v)
  (hr : Rd w B size xv us) (hx : a.eval x = xv) (h1 : ∀ u ∈ us, u.oneCell' = true) (hbytes : (xs.length + us.length) * bytes ≤ 140737488355328) (h63 : xs.length + us.length ≤ 140737488355328) (hbase : base ≤ w.heap.size)
  (h : ∀ v' w', Own w' base e size v' (xs ++ us) → w.grownBy w' v.ownBlock → (v'.ownBlock = v.ownBlock ∨ v'.ownBlock = some w.heap.size) → K (a.put o.dst v') w') : o.wp P a w K Q := by
 obtain ⟨v', w', hrun, h2, h3, h4⟩ := append_run (P := P) w o.type hE hown hr h1 hbytes h63 hbase
 unfold Oper.wp execOp
 simp only [ho, resolve, invoke, builtin, Sem.run_bind, Sem.run_pure, Result.andThen_ok, List.map_toArray, List.map_cons, List.map_nil, hs, hx, hrun]
 exact h v' w' h2 h3 h4
theorem ap_any {ops : Array Oper} {rest : List Oper} {o : Oper} {a : Act} {Q : Exit → Act → World → Prop} (w : World) (hgd : o.guard = none) (s x : Operand) (t : TypeId)
  (ho : o.op = .call { callee := .builtin .append, args := #[s, x], argTypes := #[t, t] })
  {e : TypeId} {size bytes base B : Nat} (hE : ElemOk P t e size bytes) {v xv : Value} {xs us : List Value} (hown : Own w base e size v xs) (hs : a.eval s = v)
  (hr : Rd w B size xv us) (hx : a.eval x = xv) (h1 : ∀ u ∈ us, u.oneCell' = true) (hbytes : (xs.length + us.length) * bytes ≤ 140737488355328) (h63 : xs.length + us.length ≤ 140737488355328) (hbase : base ≤ w.heap.size)
  (h : ∀ v' w', Own w' base e size v' (xs ++ us) → w.grownBy w' v.ownBlock → (v'.ownBlock = v.ownBlock ∨ v'.ownBlock = some w.heap.size) → wpList P ops Q rest (a.put o.dst v') w') : wpList P ops Q (o :: rest) a w :=
 wpList_plain hgd fun _ hK => wp_ap w s x t ho hE hown hs hr hx h1 hbytes h63 hbase fun v' w' h2 h3 h4 => hK _ _ (h v' w' h2 h3 h4)
theorem grown_of_alloc {w w' : World} {o : Obj} {row : Option Nat} (h : (w.alloc o).grownBy w' row) : w.grownBy w' row :=
 ⟨h.os, h.tape, h.output, Nat.le_trans (by simp) h.size, fun k hk hne => (h.block k (by simp; omega) hne).trans (heap_alloc_old w o hk)⟩
theorem ap_lit {ops : Array Oper} {rest : List Oper} {o : Oper} {a : Act} {Q : Exit → Act → World → Prop} (w : World) (hgd : o.guard = none) (s x : Operand) (t : TypeId)
  (ho : o.op = .call { callee := .builtin .append, args := #[s, x], argTypes := #[t, t] })
  {e T : TypeId} {bytes base : Nat} (hE : ElemOk P t e 1 bytes) {v : Value} {xs : List Value} (us : List Value) (hown : Own w base e 1 v xs) (hs : a.eval s = v)
  (hx : a.eval x = .slice (some ⟨w.heap.size, 0, none⟩) us.length us.length) (h1 : ∀ u ∈ us, u.oneCell' = true) (hbytes : (xs.length + us.length) * bytes ≤ 140737488355328) (h63 : xs.length + us.length ≤ 140737488355328) (hbase : base ≤ w.heap.size)
  (h : ∀ v' w', Own w' base e 1 v' (xs ++ us) → w.grownBy w' v.ownBlock → wpList P ops Q rest (a.put o.dst v') w') : wpList P ops Q (o :: rest) a (w.alloc (.cells us.toArray T)) :=
 ap_any (w.alloc (.cells us.toArray T)) hgd s x t ho hE (hown.alloc _) hs (Rd.lit w us us.length (by omega)) hx h1 hbytes h63 (by simp; omega) fun v' w' h2 h3 _ => h v' w' h2 (grown_of_alloc h3)
theorem belowOwn {B : Nat} {W w w' : World} {v : Value} {base size : Nat} {e : TypeId} {xs : List Value} (h : Below B W w) (hg : w.grownBy w' v.ownBlock) (hown : Own w base e size v xs) (hB : B ≤ base) (hbase : base ≤ w.heap.size) : Below B W w' :=
 h.grown hg (by omega) fun k hk => by have := (hown.block k hk).1; omega
theorem mk_arm {ops : Array Oper} {rest : List Oper} {o : Oper} {a : Act} {Q : Exit → Act → World → Prop} (w : World) (hgd : o.guard = none) (t : TypeId) (x y : Operand) (ho : o.op = .makeSlice t x y)
  {e : TypeId} {size bytes base : Nat} (hE : ElemOk P t e size bytes) (hx : a.eval x = .int .i64 0) (c : Int) (hy : a.eval y = .int .i64 c) (h0 : 0 ≤ c) (hc : (bytes : Int) * c ≤ 281474976710656) (hc2 : c ≤ 9223372036854775807) (hbase : base ≤ w.heap.size)
  (h : ∀ v' w', Own w' base e size v' [] → w.grownBy w' none → wpList P ops Q rest (a.put o.dst v') w') : wpList P ops Q (o :: rest) a w :=
 wpList_plain hgd fun _ hK => by
  obtain ⟨ht, hsz, i, z, hi, hz, rfl, rfl, hzs⟩ := hE
  have hr := run_make (P := P) w t e i z ht hi hz .i64 .i64 0 c (Int.le_refl _) h0 hc hc2
  unfold Oper.wp execOp
  simp only [ho, hx, hy, Sem.run_bind, Sem.run_pure, Result.andThen_ok, hr]
  refine hK _ _ (h _ _ (Own.made hbase (by unfold maxLen; omega) ?_) ⟨rfl, rfl, rfl, by simp, fun k hk _ => heap_alloc_old w _ hk⟩)
  simp [madeCells, hzs]
theorem str_run (w : World) (src dst e : TypeId) (hs : P.underlying src = some (.slice e)) (he : P.underlying e = some (.int .u8)) (hd : P.underlying dst = some .string)
  {B : Nat} {v : Value} {l : List UInt8} (h : Rd w B 1 v (l.map w8)) : (convert src dst v).run P w = .ok (.string ⟨l.toArray⟩) w := by
 obtain ⟨A, c, rfl, hc, hr⟩ := h.open1
 rw [List.length_map] at hr ⊢
 rcases Nat.eq_zero_or_pos l.length with h0 | hp
 ·have hl : l = [] := List.eq_nil_of_length_eq_zero h0
  subst hl
  rcases A with _ | ad
  ·rw [run_convert_bytes_string w src dst e none _ c hs he hd]
   simp [Conv.bytesToString, loadCells, loadCellsFrom]
   rfl
  ·exact run_convert_bytes_back w src dst e ad c [] hs he hd (fun j hj => by simp at hj)
 ·obtain ⟨ad, rfl, _, hcell⟩ := hr 0 hp
  exact run_convert_bytes_back w src dst e ad c l hs he hd (fun j hj => hcell j _ (by simp [List.getElem?_eq_getElem hj]; rfl))
theorem bytes_run (w : World) (src dst e : TypeId) (s : ByteArray) (hs : P.underlying src = some .string) (hd : P.underlying dst = some (.slice e)) (he : P.underlying e = some (.int .u8)) (hm : s.size ≤ maxLen)
  {base : Nat} (hb : base ≤ w.heap.size) :
  ∃ v w', (convert src dst (.string s)).run P w = .ok v w' ∧ Own w' base e 1 v (s.data.toList.map w8) ∧ w.grownBy w' none ∧ v.ownBlock = some w.heap.size := by
 refine ⟨_, _, run_bytes_of_string w src dst e s hs hd he, ?_, ⟨rfl, rfl, rfl, by simp, fun k hk _ => heap_alloc_old w.drew _ hk⟩, rfl⟩
 have hge := grownCap_ge w s.size 0 e
 have hle := grownCap_le_maxLen w s.size 0 e hm
 refine .inr ⟨w.heap.size, s.size, grownCap w s.size 0 e, _, _, rfl, hb, heap_alloc_new w.drew _, .inr (Nat.le_refl _), hge, hle, ?_, by simp, ?_⟩
 ·simp only [bytesRow, Array.size_append, Array.size_map, Array.size_replicate, Nat.mul_one]
  have : s.data.size = s.size := rfl
  omega
 ·simp only [bytesRow, Array.toList_append, Array.toList_map, Array.toList_replicate, Nat.mul_one]
  rw [List.take_append_of_le_length (by simp)]
  rw [List.take_of_length_le (by simp)]
  rfl
theorem bytes_arm {ops : Array Oper} {rest : List Oper} {o : Oper} {a : Act} {Q : Exit → Act → World → Prop} (w : World) (hgd : o.guard = none) (src dst : TypeId) (x : Operand)
  (ho : o.op = .convert src dst x) (e : TypeId) (s : ByteArray) (hx : a.eval x = .string s) (hs : P.underlying src = some .string) (hd : P.underlying dst = some (.slice e)) (he : P.underlying e = some (.int .u8)) (hm : s.size ≤ maxLen)
  {base : Nat} (hb : base ≤ w.heap.size)
  (h : ∀ v' w', Own w' base e 1 v' (s.data.toList.map w8) → w.grownBy w' none → v'.ownBlock = some w.heap.size → wpList P ops Q rest (a.put o.dst v') w') : wpList P ops Q (o :: rest) a w :=
 wpList_plain hgd fun _ hK => by
  obtain ⟨v', w', hrun, h2, h3, h4⟩ := bytes_run (P := P) w src dst e s hs hd he hm hb
  unfold Oper.wp execOp
  simp only [ho, hx, hrun, Sem.run_bind, Sem.run_pure, Result.andThen_ok]
  exact hK _ _ (h v' w' h2 h3 h4)
def aggD (d : TypeDesc) : Bool := match d with | .struct _ | .array _ _ => true | _ => false
theorem loadVar_row (w : World) (g off : Nat) (t ty : TypeId) (cs : Array Value) (fr : Nat × Nat) (d : TypeDesc) (hg : w.heap[g]? = some (.cells cs t fr))
  (hu : P.underlying ty = some d) (hd : aggD d = true) (us : List Value) (hi : (P.info? ty).map (·.size) = some us.length) (hc : ∀ j u, us[j]? = some u → cs[off + j]? = some u) :
  (loadVar ty ⟨g, off, none⟩).run P w = .ok (.agg us.toArray) w := by
 have hl : (loadCells ⟨g, off, none⟩ us.length).run P w = .ok us.toArray w :=
  run_loadCells_list (P := P) w ⟨g, off, none⟩ us (fun j v hv => by
   rw [Addr.add_lit, cell_of_row w g (off + j) cs t fr hg]
   exact hc j v hv)
 obtain ⟨i, hi', hsz⟩ := Option.map_eq_some_iff.1 hi
 have hagg : (Go.isAgg ty).run P w = .ok true w := by
  unfold Go.isAgg
  rw [Sem.run_bind, run_underlying hu w]
  cases d <;> simp_all [aggD]
 simp [loadVar, Sem.run_bind, hagg, sizeOf, typeInfo, hi', hsz, hl]
theorem ld_row {ops : Array Oper} {rest : List Oper} {o : Oper} {a : Act} {Q : Exit → Act → World → Prop} {w : World} (hgd : o.guard = none) (ty : TypeId) (x : Operand) (ho : o.op = .load ty x)
  (g off : Nat) (hx : a.eval x = .pointer (some ⟨g, off, none⟩)) {t : TypeId} {cs : Array Value} {fr : Nat × Nat} {d : TypeDesc} (hg : w.heap[g]? = some (.cells cs t fr))
  (hu : P.underlying ty = some d) (hd : aggD d = true) (us : List Value) (hi : (P.info? ty).map (·.size) = some us.length) (hc : ∀ j u, us[j]? = some u → cs[off + j]? = some u)
  (h : wpList P ops Q rest (a.put o.dst (.agg us.toArray)) w) : wpList P ops Q (o :: rest) a w :=
 wpList_plain hgd fun _ hK => by
  unfold Oper.wp execOp
  simp only [ho, hx, Instr.loadAt, Instr.sureAddr, Sem.run_bind, Sem.run_pure, Result.andThen_ok, loadVar_row w g off t ty cs fr d hg hu hd us hi hc]
  exact hK _ _ h
theorem ld_cells {ops : Array Oper} {rest : List Oper} {o : Oper} {a : Act} {Q : Exit → Act → World → Prop} {w : World} (hgd : o.guard = none) (ty : TypeId) (x : Operand) (ho : o.op = .load ty x)
  (g off : Nat) (hx : a.eval x = .pointer (some ⟨g, off, none⟩)) {d : TypeDesc}
  (hu : P.underlying ty = some d) (hd : aggD d = true) (us : List Value) (hi : (P.info? ty).map (·.size) = some us.length) (hc : ∀ j u, us[j]? = some u → w.cell? ⟨g, off + j, none⟩ = some u)
  (h : wpList P ops Q rest (a.put o.dst (.agg us.toArray)) w) : wpList P ops Q (o :: rest) a w :=
 wpList_plain hgd fun _ hK => by
  have hl : (loadCells ⟨g, off, none⟩ us.length).run P w = .ok us.toArray w :=
   run_loadCells_list (P := P) w ⟨g, off, none⟩ us (fun j v hv => by rw [Addr.add_lit]; exact hc j v hv)
  obtain ⟨i, hi', hsz⟩ := Option.map_eq_some_iff.1 hi
  have hagg : (Go.isAgg ty).run P w = .ok true w := by
   unfold Go.isAgg
   rw [Sem.run_bind, run_underlying hu w]
   cases d <;> simp_all [aggD]
  have hrun : (loadVar ty ⟨g, off, none⟩).run P w = .ok (.agg us.toArray) w := by simp [loadVar, Sem.run_bind, hagg, sizeOf, typeInfo, hi', hsz, hl]
  unfold Oper.wp execOp
  simp only [ho, hx, Instr.loadAt, Instr.sureAddr, Sem.run_bind, Sem.run_pure, Result.andThen_ok, hrun]
  exact hK _ _ h
theorem storeVar_row (w : World) (g off : Nat) (t ty : TypeId) (cs : Array Value) (fr : Nat × Nat) (hg : w.heap[g]? = some (.cells cs t fr)) (hfr : fr.2 ≤ fr.1 ∨ cs.size ≤ fr.1)
  (us : List Value) (hi : (P.info? ty).map (·.size) = some us.length) (hfit : off + us.length ≤ cs.size) (h1 : ∀ u ∈ us, u.oneCell' = true) :
  (storeVar ty ⟨g, off, none⟩ (.agg us.toArray)).run P w = .ok () (w.setRow g (cs.toList.take off ++ us ++ cs.toList.drop (off + us.length)).toArray) := by
 obtain ⟨i, hi', hsz⟩ := Option.map_eq_some_iff.1 hi
 have hst := storeCells_fr (P := P) g off t fr us 0 cs w hg hfr (by omega) h1
 simp only [Nat.add_zero] at hst
 simp [storeVar, Value.cells, sizeOf, typeInfo, hi', hsz, hst]
theorem st_row {ops : Array Oper} {rest : List Oper} {o : Oper} {a : Act} {Q : Exit → Act → World → Prop} {w : World} (hgd : o.guard = none) (ty : TypeId) (x y : Operand) (ho : o.op = .store ty x y)
  (g off : Nat) (hx : a.eval x = .pointer (some ⟨g, off, none⟩)) (us : List Value) (hy : a.eval y = .agg us.toArray) {t : TypeId} {cs : Array Value} {fr : Nat × Nat} (hg : w.heap[g]? = some (.cells cs t fr)) (hfr : fr.2 ≤ fr.1 ∨ cs.size ≤ fr.1)
  (hi : (P.info? ty).map (·.size) = some us.length) (hfit : off + us.length ≤ cs.size) (h1 : ∀ u ∈ us, u.oneCell' = true)
  (h : wpList P ops Q rest (a.put o.dst undef) (w.setRow g (cs.toList.take off ++ us ++ cs.toList.drop (off + us.length)).toArray)) : wpList P ops Q (o :: rest) a w :=
 wpList_plain hgd fun _ hK => by
  unfold Oper.wp execOp
  simp only [ho, hx, hy, Instr.storeAt, Instr.sureAddr, Sem.run_bind, Sem.run_pure, Result.andThen_ok, storeVar_row w g off t ty cs fr hg hfr us hi hfit h1]
  exact hK _ _ h
theorem st_all {ops : Array Oper} {rest : List Oper} {o : Oper} {a : Act} {Q : Exit → Act → World → Prop} {w : World} (hgd : o.guard = none) (ty : TypeId) (x y : Operand) (ho : o.op = .store ty x y)
  (g : Nat) (hx : a.eval x = .pointer (some ⟨g, 0, none⟩)) (us : List Value) (hy : a.eval y = .agg us.toArray) {t : TypeId} {cs : Array Value} (hg : w.heap[g]? = some (.cells cs t (0, 0)))
  (hi : (P.info? ty).map (·.size) = some us.length) (hfit : us.length = cs.size) (h1 : ∀ u ∈ us, u.oneCell' = true)
  (h : wpList P ops Q rest (a.put o.dst undef) (w.setRow g us.toArray)) : wpList P ops Q (o :: rest) a w :=
 st_row hgd ty x y ho g 0 hx us hy hg (.inl (by simp)) hi (by omega) h1 (by
  have e : (cs.toList.take 0 ++ us ++ cs.toList.drop (0 + us.length)) = us := by
   rw [List.take_zero, List.nil_append, List.drop_eq_nil_of_le (by simp; omega), List.append_nil]
  rw [e]
  exact h)
theorem setRow_new (w : World) (old cs : Array Value) (t : TypeId) : (w.alloc (.cells old t)).setRow w.heap.size cs = w.alloc (.cells cs t) := by
 unfold World.setRow
 have : ∀ (a : Array Obj) (x : Obj) (f : Obj → Obj), (a.push x).modify a.size f = a.push (f x) := by
  intro a x f
  apply Array.ext
  ·simp
  ·intro i h1 h2
   simp only [Array.getElem_modify, Array.getElem_push]
   by_cases h : a.size = i
   ·subst h
    simp
   ·have hi : i < a.size := by simp at h1; omega
    simp [h, hi]
 show ({ w.alloc (.cells old t) with heap := (w.heap.push (.cells old t)).modify w.heap.size _ } : World) = _
 rw [this]
 rfl
theorem st_new {ops : Array Oper} {rest : List Oper} {o : Oper} {a : Act} {Q : Exit → Act → World → Prop} (w : World) (hgd : o.guard = none) (ty : TypeId) (x y : Operand) (ho : o.op = .store ty x y)
  (hx : a.eval x = .pointer (some ⟨w.heap.size, 0, none⟩)) (us : List Value) (hy : a.eval y = .agg us.toArray) {t : TypeId} {old : Array Value}
  (hi : (P.info? ty).map (·.size) = some us.length) (hfit : us.length = old.size) (h1 : ∀ u ∈ us, u.oneCell' = true)
  (h : wpList P ops Q rest (a.put o.dst undef) (w.alloc (.cells us.toArray t))) : wpList P ops Q (o :: rest) a (w.alloc (.cells old t)) :=
 st_all hgd ty x y ho w.heap.size hx us hy (heap_alloc_new w _) hi hfit h1 (by rw [setRow_new]; exact h)
theorem belowSetRow {B : Nat} {a w : World} (h : Below B a w) {g : Nat} (hg : B ≤ g) (cs : Array Value) : Below B a (w.setRow g cs) :=
 ⟨h.os, h.tape, h.output, by simpa using h.size, fun k hk => (setRow_other w g k cs (by omega)).trans (h.block k hk)⟩
theorem grown_setRow {a w : World} {g : Nat} (h : a.grownBy w (some g)) (cs : Array Value) : a.grownBy (w.setRow g cs) (some g) :=
 ⟨h.os, h.tape, h.output, by simpa using h.size, fun k hk hne => (setRow_other w g k cs (fun e => hne (by rw [e]))).trans (h.block k hk hne)⟩
theorem one1 {v : Value} (h : v.oneCell' = true) : ∀ u ∈ [v], u.oneCell' = true := by
 intro u hu
 rw [List.mem_singleton] at hu
 rw [hu]; exact h
theorem Own.form {w : World} {base : Nat} {e : TypeId} {v : Value} {xs : List Value} (h : Own w base e 1 v xs) (hne : 0 < xs.length) :
  ∃ g cap, v = .slice (some ⟨g, 0, none⟩) xs.length cap ∧ xs.length ≤ cap ∧ base ≤ g ∧ g < w.heap.size ∧ ∀ j u, xs[j]? = some u → w.cell? ⟨g, j, none⟩ = some u := by
 have hrd := h.rd
 rcases h with ⟨rfl, rfl⟩ | ⟨g, n, cap, cur, fr, rfl, hb, hg, hfr, hnc, hcm, hcs, hl, htake⟩
 ·simp at hne
 ·obtain rfl : xs.length = n := by omega
  refine ⟨g, cap, rfl, hnc, hb, (Array.getElem?_eq_some_iff.1 hg).1, fun j u hu => ?_⟩
  rw [cell_of_row w g j cur e fr hg]
  rw [← htake, List.getElem?_take] at hu
  split at hu
  ·simpa using hu
  ·cases hu
theorem Own.free {w : World} {base : Nat} {e : TypeId} {xs : List Value} {g n cap : Nat} (h : Own w base e 1 (.slice (some ⟨g, 0, none⟩) n cap) xs) (j : Nat) (hj : j < xs.length) : w.frozen? ⟨g, j, none⟩ = false := by
 rcases h with ⟨h, _⟩ | ⟨g', n', cap', cur, fr, h, hb, hg, hfr, hnc, hcm, hcs, hl, htake⟩
 ·cases h
 ·simp only [Value.slice.injEq, Option.some.injEq, Addr.mk.injEq] at h
  obtain ⟨⟨rfl, _⟩, rfl, rfl⟩ := h
  simp only [World.frozen?, hg, Bool.and_eq_false_iff, decide_eq_false_iff_not]
  omega
theorem Own.set {w : World} {base : Nat} {e : TypeId} {xs : List Value} {g n cap : Nat} (h : Own w base e 1 (.slice (some ⟨g, 0, none⟩) n cap) xs) (j : Nat) (hj : j < xs.length) (u : Value) :
  Own (w.setCell ⟨g, j, none⟩ u) base e 1 (.slice (some ⟨g, 0, none⟩) n cap) (xs.set j u) := by
 rcases h with ⟨h, _⟩ | ⟨g', n', cap', cur, fr, h, hb, hg, hfr, hnc, hcm, hcs, hl, htake⟩
 ·cases h
 ·simp only [Value.slice.injEq, Option.some.injEq, Addr.mk.injEq] at h
  obtain ⟨⟨rfl, _⟩, rfl, rfl⟩ := h
  rw [setCell_eq_setRow w g j cur e fr u hg]
  refine .inr ⟨g, n, cap, _, fr, rfl, hb, setRow_heap w g cur _ e _ hg, by simpa using hfr, hnc, hcm, by simpa using hcs, by simpa using hl, ?_⟩
  rw [Array.toList_setIfInBounds, List.take_set, htake]
theorem Own.len1 {w : World} {base : Nat} {e : TypeId} {v : Value} {xs : List Value} (h : Own w base e 1 v xs) : ∃ A c, v = .slice A xs.length c := by
 obtain ⟨A, c, h, _⟩ := h.rd.len
 exact ⟨A, c, h⟩
theorem oneCell_map8 (l : List UInt8) : ∀ u ∈ l.map w8, u.oneCell' = true := by
 intro u hu
 obtain ⟨b, _, rfl⟩ := List.mem_map.1 hu
 rfl
theorem oneCell_map32 (l : List (BitVec 32)) : ∀ u ∈ l.map w32, u.oneCell' = true := by
 intro u hu
 obtain ⟨b, _, rfl⟩ := List.mem_map.1 hu
 rfl
theorem step_ld_row {ops : Array Oper} {o : Oper} {a : Act} {K : Act → World → Prop} {Q : Exit → Act → World → Prop} {E : Prop} {w : World} (hgd : o.guard = none) (ty : TypeId) (x : Operand) (ho : o.op = .load ty x)
  (g off : Nat) (hx : a.eval x = .pointer (some ⟨g, off, none⟩)) {t : TypeId} {cs : Array Value} {fr : Nat × Nat} {d : TypeDesc} (hg : w.heap[g]? = some (.cells cs t fr))
  (hu : P.underlying ty = some d) (hd : aggD d = true) (us : List Value) (hi : (P.info? ty).map (·.size) = some us.length) (hc : ∀ j u, us[j]? = some u → cs[off + j]? = some u)
  (h : K (a.put o.dst (.agg us.toArray)) w) : if Region.wanted o (yielded ops a.tmps) = true then Oper.wp P o a w K Q else E := by
 have hw : Region.wanted o (yielded ops a.tmps) = true := by simp [Region.wanted, hgd]
 rw [if_pos hw]
 unfold Oper.wp execOp
 simp only [ho, hx, Instr.loadAt, Instr.sureAddr, Sem.run_bind, Sem.run_pure, Result.andThen_ok, loadVar_row w g off t ty cs fr d hg hu hd us hi hc]
 exact h
theorem step_st_row {ops : Array Oper} {o : Oper} {a : Act} {K : Act → World → Prop} {Q : Exit → Act → World → Prop} {E : Prop} {w : World} (hgd : o.guard = none) (ty : TypeId) (x y : Operand) (ho : o.op = .store ty x y)
  (g off : Nat) (hx : a.eval x = .pointer (some ⟨g, off, none⟩)) (us : List Value) (hy : a.eval y = .agg us.toArray) {t : TypeId} {cs : Array Value} {fr : Nat × Nat} (hg : w.heap[g]? = some (.cells cs t fr)) (hfr : fr.2 ≤ fr.1 ∨ cs.size ≤ fr.1)
  (hi : (P.info? ty).map (·.size) = some us.length) (hfit : off + us.length ≤ cs.size) (h1 : ∀ u ∈ us, u.oneCell' = true)
  (h : K (a.put o.dst undef) (w.setRow g (cs.toList.take off ++ us ++ cs.toList.drop (off + us.length)).toArray)) : if Region.wanted o (yielded ops a.tmps) = true then Oper.wp P o a w K Q else E := by
 have hw : Region.wanted o (yielded ops a.tmps) = true := by simp [Region.wanted, hgd]
 rw [if_pos hw]
 unfold Oper.wp execOp
 simp only [ho, hx, hy, Instr.storeAt, Instr.sureAddr, Sem.run_bind, Sem.run_pure, Result.andThen_ok, storeVar_row w g off t ty cs fr hg hfr us hi hfit h1]
 exact h
theorem step_st_all {ops : Array Oper} {o : Oper} {a : Act} {K : Act → World → Prop} {Q : Exit → Act → World → Prop} {E : Prop} {w : World} (hgd : o.guard = none) (ty : TypeId) (x y : Operand) (ho : o.op = .store ty x y)
  (g : Nat) (hx : a.eval x = .pointer (some ⟨g, 0, none⟩)) (us : List Value) (hy : a.eval y = .agg us.toArray) {t : TypeId} {cs : Array Value} (hg : w.heap[g]? = some (.cells cs t (0, 0)))
  (hi : (P.info? ty).map (·.size) = some us.length) (hfit : us.length = cs.size) (h1 : ∀ u ∈ us, u.oneCell' = true)
  (h : K (a.put o.dst undef) (w.setRow g us.toArray)) : if Region.wanted o (yielded ops a.tmps) = true then Oper.wp P o a w K Q else E :=
 step_st_row hgd ty x y ho g 0 hx us hy hg (.inl (by simp)) hi (by omega) h1 (by
  have e : (cs.toList.take 0 ++ us ++ cs.toList.drop (0 + us.length)) = us := by
   rw [List.take_zero, List.nil_append, List.drop_eq_nil_of_le (by simp; omega), List.append_nil]
  rw [e]
  exact h)
theorem step_ap_any {ops : Array Oper} {o : Oper} {a : Act} {K : Act → World → Prop} {Q : Exit → Act → World → Prop} {E : Prop} (w : World) (hgd : o.guard = none) (s x : Operand) (t : TypeId)
  (ho : o.op = .call { callee := .builtin .append, args := #[s, x], argTypes := #[t, t] })
  {e : TypeId} {size bytes base B : Nat} (hE : ElemOk P t e size bytes) {v xv : Value} {xs us : List Value} (hown : Own w base e size v xs) (hs : a.eval s = v)
  (hr : Rd w B size xv us) (hx : a.eval x = xv) (h1 : ∀ u ∈ us, u.oneCell' = true) (hbytes : (xs.length + us.length) * bytes ≤ 140737488355328) (h63 : xs.length + us.length ≤ 140737488355328) (hbase : base ≤ w.heap.size)
  (h : ∀ v' w', Own w' base e size v' (xs ++ us) → w.grownBy w' v.ownBlock → (v'.ownBlock = v.ownBlock ∨ v'.ownBlock = some w.heap.size) → K (a.put o.dst v') w') : if Region.wanted o (yielded ops a.tmps) = true then Oper.wp P o a w K Q else E := by
 have hw : Region.wanted o (yielded ops a.tmps) = true := by simp [Region.wanted, hgd]
 rw [if_pos hw]
 exact wp_ap w s x t ho hE hown hs hr hx h1 hbytes h63 hbase h
theorem step_ap_lit {ops : Array Oper} {o : Oper} {a : Act} {K : Act → World → Prop} {Q : Exit → Act → World → Prop} {E : Prop} (w : World) (hgd : o.guard = none) (s x : Operand) (t : TypeId)
  (ho : o.op = .call { callee := .builtin .append, args := #[s, x], argTypes := #[t, t] })
  {e T : TypeId} {bytes base : Nat} (hE : ElemOk P t e 1 bytes) {v : Value} {xs : List Value} (us : List Value) (hown : Own w base e 1 v xs) (hs : a.eval s = v)
  (hx : a.eval x = .slice (some ⟨w.heap.size, 0, none⟩) us.length us.length) (h1 : ∀ u ∈ us, u.oneCell' = true) (hbytes : (xs.length + us.length) * bytes ≤ 140737488355328) (h63 : xs.length + us.length ≤ 140737488355328) (hbase : base ≤ w.heap.size)
  (h : ∀ v' w', Own w' base e 1 v' (xs ++ us) → w.grownBy w' v.ownBlock → K (a.put o.dst v') w') : if Region.wanted o (yielded ops a.tmps) = true then Oper.wp P o a (w.alloc (.cells us.toArray T)) K Q else E :=
 step_ap_any (w.alloc (.cells us.toArray T)) hgd s x t ho hE (hown.alloc _) hs (Rd.lit w us us.length (by omega)) hx h1 hbytes h63 (by simp; omega) fun v' w' h2 h3 _ => h v' w' h2 (grown_of_alloc h3)
theorem still_ld_row {ops : Array Oper} {o : Oper} {rest : List Oper} {a : Act} {w : World} {Q : Act → Prop} (hgd : o.guard = none) (ty : TypeId) (x : Operand) (ho : o.op = .load ty x)
  (g off : Nat) (hx : a.eval x = .pointer (some ⟨g, off, none⟩)) {t : TypeId} {cs : Array Value} {fr : Nat × Nat} {d : TypeDesc} (hg : w.heap[g]? = some (.cells cs t fr))
  (hu : P.underlying ty = some d) (hd : aggD d = true) (us : List Value) (hi : (P.info? ty).map (·.size) = some us.length) (hc : ∀ j u, us[j]? = some u → cs[off + j]? = some u)
  (h : wpStill P ops w Q rest (a.put o.dst (.agg us.toArray))) : wpStill P ops w Q (o :: rest) a :=
 wpStill_step fun K hK => by
  have hw : Region.wanted o (yielded ops a.tmps) = true := by simp [Region.wanted, hgd]
  rw [if_pos hw]
  unfold Oper.still execOp
  simp only [ho, hx, Instr.loadAt, Instr.sureAddr, Sem.run_bind, Sem.run_pure, Result.andThen_ok, loadVar_row w g off t ty cs fr d hg hu hd us hi hc]
  exact ⟨rfl, hK _ h⟩
end
end Go.Proofs.YthbpbkbjdfcnjaaGreatDoor
