/- A disk in memory: one block of twenty cells, and the rows of its files; who owns which block. -/
import Derived.Test.YtjicccjpooahoaaDiskM
import Derived.Deep.OwnRows
import Derived.Lib.AppendStr
import Derived.Test.YtjicccjpooahoaaChecked
namespace Go.Proofs.Ytjicccjpooahoaa
set_option linter.unusedSectionVars false
set_option linter.unusedVariables false
set_option linter.unusedSimpArgs false
open Go Go.RowKit Dm
/-- the block that a slice value owns: none without capacity -/
def bl : Value → Option Nat
  | .slice (some a) _ (_ + 1) => some a.block
  | _ => none
theorem bl_lit (b n c : Nat) (hc : 0 < c) : bl (.slice (some ⟨b, 0, none⟩) n c) = some b := by
  obtain ⟨c, rfl⟩ := Nat.exists_eq_succ_of_ne_zero (Nat.ne_of_gt hc)
  rfl
theorem bl_none (A : Option Addr) (n : Nat) : bl (.slice A n 0) = none := by cases A <;> rfl
/-- the slice value v is a file's row: without capacity, or at the head of a row that holds the bytes -/
def Fil (w : World) (v : Value) (l : List UInt8) : Prop :=
  (∃ A, v = .slice A 0 0 ∧ l = []) ∨ ∃ b cap, v = .slice (some ⟨b, 0, none⟩) l.length cap ∧ 0 < cap ∧ Own w 0 5 1 v (l.map w8)
section
variable {w w' : World} {v : Value} {l : List UInt8}
theorem Fil.nil (w : World) : Fil w (.slice none 0 0) [] := .inl ⟨none, rfl, rfl⟩
theorem Fil.block (h : Fil w v l) : ∀ b, bl v = some b → b < w.heap.size := by
  rcases h with ⟨A, rfl, _⟩ | ⟨b, cap, rfl, hc, hown⟩
  · intro b h; rw [bl_none] at h; cases h
  · intro b' h
    rw [bl_lit _ _ _ hc] at h
    cases h
    exact (hown.block b rfl).2
theorem Fil.keep (h : Fil w v l) (hk : ∀ b, bl v = some b → w'.heap[b]? = w.heap[b]?) : Fil w' v l := by
  rcases h with h | ⟨b, cap, rfl, hc, hown⟩
  · exact .inl h
  · refine .inr ⟨b, cap, rfl, hc, hown.keep fun g hg => ?_⟩
    have : b = g := by simpa [Value.ownBlock] using hg
    subst this
    exact hk _ (bl_lit _ _ _ hc)
theorem Fil.rd (h : Fil w v l) : Rd w w.heap.size 1 v (l.map w8) := by
  rcases h with ⟨A, rfl, rfl⟩ | ⟨b, cap, rfl, hc, hown⟩
  · exact ⟨A, 0, 0, rfl, Nat.le_refl _, by simp, fun h => absurd h (by omega)⟩
  · exact hown.rd
theorem Fil.form (h : Fil w v l) : ∃ A c, v = .slice A l.length c ∧ l.length ≤ c := by
  obtain ⟨A, c, h1, h2⟩ := h.rd.len
  rw [List.length_map] at h1 h2
  exact ⟨A, c, h1, h2⟩
/-- the row shortened: the value's length alone changes -/
theorem Fil.take {A : Option Addr} {c : Nat} (h : Fil w (.slice A l.length c) l) (n : Nat) (hn : n ≤ l.length) : Fil w (.slice A n c) (l.take n) := by
  rcases h with ⟨A', h, rfl⟩ | ⟨b, cap, h, hc, hown⟩
  · simp only [Value.slice.injEq] at h
    obtain ⟨rfl, _, rfl⟩ := h
    have : n = 0 := by simpa using hn
    subst this
    exact .inl ⟨A, rfl, by simp⟩
  · simp only [Value.slice.injEq] at h
    obtain ⟨rfl, _, rfl⟩ := h
    refine .inr ⟨b, c, by rw [List.length_take, Nat.min_eq_left hn], hc, ?_⟩
    rcases hown with ⟨h, _⟩ | ⟨g, n', cap, cur, fr, h, hb, hg, hfr, hnc, hcm, hcs, hl, htake⟩
    · cases h
    · simp only [Value.slice.injEq, Option.some.injEq, Addr.mk.injEq] at h
      obtain ⟨⟨rfl, _⟩, rfl, rfl⟩ := h
      refine .inr ⟨b, n, c, cur, fr, rfl, hb, hg, hfr, by omega, hcm, hcs, by simp; omega, ?_⟩
      rw [Nat.mul_one] at htake ⊢
      rw [List.map_take, ← htake, List.take_take, Nat.min_eq_left hn]
theorem Fil.bl_take (A : Option Addr) (n m c : Nat) : bl (.slice A n c) = bl (.slice A m c) := by
  cases A <;> cases c <;> rfl
theorem Fil.of_own {base : Nat} {xs : List Value} (h : Own w base 5 1 v xs) (hx : xs = l.map w8) : Fil w v l := by
  subst hx
  rcases h with ⟨rfl, h⟩ | ⟨g, n, cap, cur, fr, rfl, hb, hg, hfr, hnc, hcm, hcs, hl, htake⟩
  · exact .inl ⟨none, rfl, List.map_eq_nil_iff.1 h⟩
  · have hn : l.length = n := by simpa using hl
    subst hn
    rcases Nat.eq_zero_or_pos cap with rfl | hc
    · have h0 : l.length = 0 := by omega
      exact .inl ⟨_, by rw [h0], List.eq_nil_of_length_eq_zero h0⟩
    · exact .inr ⟨g, cap, rfl, hc, .inr ⟨g, _, cap, cur, fr, rfl, Nat.zero_le _, hg, hfr, hnc, hcm, hcs, hl, htake⟩⟩
end
/-- the value kv reads as the numbers ks -/
def Kp (w : World) (v : Value) (ks : List Int) : Prop :=
  ∃ A c, v = .slice A ks.length c ∧ ks.length ≤ c ∧ (0 < ks.length → ∃ b o, A = some ⟨b, o, none⟩ ∧ ∀ j, j < ks.length → w.cell? ⟨b, o + j, none⟩ = some (.int .i64 (ks.getD j 0)))
theorem Kp.nil (w : World) : Kp w (.slice none 0 0) [] := ⟨none, 0, rfl, Nat.le_refl _, fun h => absurd h (by simp)⟩
theorem Kp.keep {w w' : World} {v : Value} {ks : List Int} (h : Kp w v ks) (hk : ∀ b, bl v = some b → w'.heap[b]? = w.heap[b]?) : Kp w' v ks := by
  obtain ⟨A, c, rfl, hc, hr⟩ := h
  refine ⟨A, c, rfl, hc, fun h0 => ?_⟩
  obtain ⟨b, o, rfl, h⟩ := hr h0
  refine ⟨b, o, rfl, fun j hj => ?_⟩
  have hb : bl (.slice (some ⟨b, o, none⟩) ks.length c) = some b := by
    obtain ⟨c', rfl⟩ := Nat.exists_eq_succ_of_ne_zero (show c ≠ 0 by omega)
    rfl
  rw [World.cell?_of_block (hk b hb)]
  exact h j hj
theorem Kp.block {w : World} {v : Value} {ks : List Int} (h : Kp w v ks) (h0 : 0 < ks.length) : ∃ b, bl v = some b ∧ b < w.heap.size := by
  obtain ⟨A, c, rfl, hc, hr⟩ := h
  obtain ⟨b, o, rfl, h⟩ := hr h0
  have := World.block_lt_of_cell? w _ (h 0 h0)
  refine ⟨b, ?_, this⟩
  obtain ⟨c', rfl⟩ := Nat.exists_eq_succ_of_ne_zero (show c ≠ 0 by omega)
  rfl
/-- cell j of a disk's block -/
def cellD (vs : Nat → Value) (kv : Value) (d : Dk) (j : Nat) : Value :=
  if j < 16 then (if j % 2 = 0 then vs (j / 2) else .int .i64 ((d.fs (j / 2)).dur : Int)) else
  if j = 16 then .bool d.down else if j = 17 then .int .i64 (d.lost : Int) else if j = 18 then .int .i64 (d.armed : Int) else kv
theorem cellD_data (vs : Nat → Value) (kv : Value) (d : Dk) (i : Nat) (h : i < 8) : cellD vs kv d (i * 2) = vs i := by
  unfold cellD
  rw [if_pos (by omega), if_pos (by omega), show i * 2 / 2 = i from by omega]
theorem cellD_dur (vs : Nat → Value) (kv : Value) (d : Dk) (i : Nat) (h : i < 8) : cellD vs kv d (i * 2 + 1) = .int .i64 ((d.fs i).dur : Int) := by
  unfold cellD
  rw [if_pos (by omega), if_neg (by omega), show (i * 2 + 1) / 2 = i from by omega]
theorem cellD_down (vs : Nat → Value) (kv : Value) (d : Dk) : cellD vs kv d 16 = .bool d.down := rfl
theorem cellD_lost (vs : Nat → Value) (kv : Value) (d : Dk) : cellD vs kv d 17 = .int .i64 (d.lost : Int) := rfl
theorem cellD_armed (vs : Nat → Value) (kv : Value) (d : Dk) : cellD vs kv d 18 = .int .i64 (d.armed : Int) := rfl
theorem cellD_keep (vs : Nat → Value) (kv : Value) (d : Dk) : cellD vs kv d 19 = kv := rfl
/-- the rows of the files and of the kept lengths, and whose they are -/
structure Rows3 (w : World) (S : Nat → Prop) (g : Nat) (vs : Nat → Value) (kv : Value) (d : Dk) : Prop where
  head : S g
  fil : ∀ i, i < 8 → Fil w (vs i) (d.fs i).data
  own : ∀ i b, i < 8 → bl (vs i) = some b → S b ∧ b ≠ g
  apart : ∀ i j b, i < 8 → j < 8 → i ≠ j → bl (vs i) = some b → bl (vs j) ≠ some b
  kp : Kp w kv d.keep
  kown : ∀ b, bl kv = some b → S b ∧ b ≠ g
  kapart : ∀ i b, i < 8 → bl (vs i) = some b → bl kv ≠ some b
  klt : ∀ b, bl kv = some b → b < w.heap.size
/-- the disk d lies at block g; its blocks are among S -/
def DRep (w : World) (S : Nat → Prop) (g : Nat) (d : Dk) : Prop :=
  ∃ vs kv, w.rowIs g 63 20 (cellD vs kv d) ∧ Rows3 w S g vs kv d
end Go.Proofs.Ytjicccjpooahoaa
namespace Go.Proofs.Ytjicccjpooahoaa
set_option linter.unusedSectionVars false
set_option linter.unusedVariables false
set_option linter.unusedSimpArgs false
open Go Go.RowKit Dm
/-- from w to w' nothing has changed but blocks of S and new ones -/
structure Fr (S : Nat → Prop) (w w' : World) : Prop where
  os : w'.os = w.os
  tape : w'.tape = w.tape
  output : w'.output = w.output
  size : w.heap.size ≤ w'.heap.size
  block : ∀ b, b < w.heap.size → ¬ S b → w'.heap[b]? = w.heap[b]?
section
variable {S : Nat → Prop} {w w' w'' : World} {g : Nat} {d : Dk}
theorem Fr.refl (S : Nat → Prop) (w : World) : Fr S w w := ⟨rfl, rfl, rfl, Nat.le_refl _, fun _ _ _ => rfl⟩
theorem Fr.trans (h : Fr S w w') (h' : Fr S w' w'') : Fr S w w'' :=
  ⟨h'.os.trans h.os, h'.tape.trans h.tape, h'.output.trans h.output, Nat.le_trans h.size h'.size, fun b hb hS => (h'.block b (Nat.lt_of_lt_of_le hb h.size) hS).trans (h.block b hb hS)⟩
theorem Fr.drewN (w : World) (n : Nat) : Fr S w (w.drewN n) := ⟨rfl, rfl, rfl, Nat.le_refl _, fun _ _ _ => rfl⟩
theorem Fr.setCell {p : Addr} (hp : S p.block) (u : Value) : Fr S w (w.setCell p u) :=
  ⟨rfl, rfl, rfl, by simp, fun b _ hS => Below.heap_setCell w p u b (fun e => hS (by rw [e]; exact hp))⟩
theorem Fr.alloc (w : World) (o : Obj) : Fr S w (w.alloc o) := ⟨rfl, rfl, rfl, by simp, fun b hb _ => heap_alloc_old w o hb⟩
theorem Fr.grown {row : Option Nat} (h : w.grownBy w' row) (hr : ∀ b, row = some b → S b) : Fr S w w' :=
  ⟨h.os, h.tape, h.output, h.size, fun b hb hS => h.block b hb (fun e => hS (hr b e.symm))⟩
theorem Fr.below {B : Nat} {a : World} (h : Fr S w w') (hb : Below B a w) (hS : ∀ b, b < B → ¬ S b) (hB : B ≤ w.heap.size) : Below B a w' :=
  ⟨h.os.trans hb.os, h.tape.trans hb.tape, h.output.trans hb.output, Nat.le_trans hb.size h.size, fun b hlt => (h.block b (by omega) (hS b hlt)).trans (hb.block b hlt)⟩
theorem Fr.more {S' : Nat → Prop} (h : Fr S w w') (hS : ∀ b, S b → S' b) : Fr S' w w' := ⟨h.os, h.tape, h.output, h.size, fun b hb hn => h.block b hb (fun hs => hn (hS b hs))⟩
theorem DRep.more {S' : Nat → Prop} (h : DRep w S g d) (hS : ∀ b, S b → S' b) : DRep w S' g d := by
  obtain ⟨vs, kv, hr, h⟩ := h
  exact ⟨vs, kv, hr, hS _ h.head, h.fil, fun i b hi hb => ⟨hS _ (h.own i b hi hb).1, (h.own i b hi hb).2⟩, h.apart, h.kp, fun b hb => ⟨hS _ (h.kown b hb).1, (h.kown b hb).2⟩, h.kapart, h.klt⟩
theorem same_lt {w w' : World} {b : Nat} (h : w'.heap[b]? = w.heap[b]?) (hb : b < w.heap.size) : b < w'.heap.size := by
  rw [Array.getElem?_eq_getElem hb] at h
  exact (Array.getElem?_eq_some_iff.1 h).1
theorem DRep.keep (h : DRep w S g d) (hk : ∀ b, S b → b < w.heap.size → w'.heap[b]? = w.heap[b]?) : DRep w' S g d := by
  obtain ⟨vs, kv, hr, h⟩ := h
  exact ⟨vs, kv, hr.of_block (hk _ h.head hr.lt), h.head, fun i hi => (h.fil i hi).keep fun b hb => hk b (h.own i b hi hb).1 ((h.fil i hi).block b hb), h.own, h.apart, h.kp.keep fun b hb => hk b (h.kown b hb).1 (h.klt b hb), h.kown, h.kapart, fun b hb => same_lt (hk b (h.kown b hb).1 (h.klt b hb)) (h.klt b hb)⟩
theorem DRep.drewN (h : DRep w S g d) (n : Nat) : DRep (w.drewN n) S g d := h.keep fun _ _ _ => rfl
theorem DRep.alloc (h : DRep w S g d) (o : Obj) : DRep (w.alloc o) S g d := h.keep fun _ _ hb => heap_alloc_old w o hb
end
end Go.Proofs.Ytjicccjpooahoaa
namespace Go.Proofs.Ytjicccjpooahoaa
set_option linter.unusedSectionVars false
set_option linter.unusedVariables false
set_option linter.unusedSimpArgs false
open Go Go.RowKit Dm Go.Lib
theorem strCells_w8 (s : ByteArray) : strCells s = s.data.toList.map w8 := rfl
/-- append of a string to a file's row -/
theorem Fil.append {P : Program} {w : World} {v : Value} {l : List UInt8} (h : Fil w v l) (t u ty : TypeId) (ht : P.underlying t = some (.slice 5)) (hu : P.underlying u = some .string)
    (hE : ElemOk P t 5 1 1) (hz : ∀ i, P.info? 5 = some i → i.zero = some (.int .u8 0)) (s : ByteArray) (hb : l.length + s.size ≤ 140737488355328) :
    ∃ v' w', (Builtin.append_ #[t, u] ty #[v, .string s]).run P w = .ok v' w' ∧ Fil w' v' (l ++ s.data.toList) ∧ w.grownBy w' (bl v) ∧ (bl v' = bl v ∨ bl v' = some w.heap.size) := by
  obtain ⟨_, _, i, z, hi, hz', hs1, hby, hzs⟩ := hE
  have hz := hz i hi
  have hsz : s.data.toList.length = s.size := by simp
  have grow : ∀ (xs : List UInt8) (old : Nat), xs.length = l.length → xs = l → 0 < s.size → Fil (w.drew.alloc (.cells ((xs.map w8).toArray ++ (strCells s).toArray ++ Builtin.zeroCells (Value.int .u8 0).cells (grownCap w (l.length + s.size) old 5 - (l.length + s.size))) 5))
      (.slice (some ⟨w.heap.size, 0, none⟩) (l.length + s.size) (grownCap w (l.length + s.size) old 5)) (l ++ s.data.toList) := by
    intro xs old hxl hx h0
    subst hx
    have hge := grownCap_ge w (xs.length + s.size) old 5
    have hcm : grownCap w (xs.length + s.size) old 5 ≤ maxLen := grownCap_le_maxLen w (xs.length + s.size) old 5 (by simp only [maxLen]; omega)
    have hlen : (xs ++ s.data.toList).length = xs.length + s.size := by rw [List.length_append, hsz]
    refine .inr ⟨w.heap.size, _, by rw [hlen], by omega, .inr ⟨w.heap.size, _, _, _, (0, 0), rfl, Nat.zero_le _, heap_alloc_new w.drew _, .inl (by simp), hge, hcm, ?_, by rw [List.length_map, hlen, Nat.mul_one], ?_⟩⟩
    · have hz1 : (Value.int IntKind.u8 0).cells.size = 1 := rfl
      simp only [Array.size_append, List.size_toArray, size_zeroCells, hz1, List.length_map, strCells_length]
      omega
    · simp only [Array.toList_append, List.append_assoc, strCells_w8]
      rw [← List.append_assoc, ← List.map_append, Nat.mul_one, ← hlen, ← List.length_map (f := w8)]
      exact List.take_left
  have gr : ∀ o, w.grownBy (w.drew.alloc o) (bl v) := fun o => ⟨rfl, rfl, rfl, by simp, fun k hk _ => heap_alloc_old w.drew _ hk⟩
  rcases Nat.eq_zero_or_pos s.size with h0 | h0
  · have hs0 : s.data.toList = [] := List.eq_nil_of_length_eq_zero (by omega)
    have hsc : strCells s = [] := by rw [strCells_w8, hs0]; rfl
    have hf := run_firstCells_string (P := P) w 1 s
    rw [hsc] at hf
    refine ⟨v, w, ?_, by rw [hs0, List.append_nil]; exact h, ⟨rfl, rfl, rfl, Nat.le_refl _, fun _ _ _ => rfl⟩, .inl rfl⟩
    rw [h0] at hf
    obtain ⟨A, c, rfl, hc⟩ := h.form
    cases A <;> simp [Builtin.append_, run_underlying ht, run_underlying hu, sizeOf, typeInfo, hi, hs1, Builtin.lenOf, h0, hc, hf, storeCells]
  · rcases h with ⟨A, rfl, rfl⟩ | ⟨b, cap, rfl, hc, hown⟩
    · rcases A with _ | a
      · have hr := run_append_nil_string (P := P) w t u ty 5 i (.int .u8 0) ht hu hi hz s h0 (by simp at hb; omega) (by rw [hby]; simp at hb; omega)
        have hg := grow [] 0 rfl rfl h0
        simp only [List.length_nil, Nat.zero_add] at hg hr
        refine ⟨_, _, hr, ?_, gr _, .inr (bl_lit _ _ _ ?_)⟩
        · have e : (s.data.map (fun b => Value.int .u8 (b.toNat : Int))) = (([] : List UInt8).map w8).toArray ++ (strCells s).toArray := by
            apply Array.ext'
            simp [strCells]
          rw [e]
          exact hg
        · have := grownCap_ge w s.size 0 5; omega
      · have hr := run_append_grow_string (P := P) w t u ty 5 i (.int .u8 0) ht hu hi hz a 0 0 [] (by simp) (fun j v h => by simp at h) s (by omega) (by simp at hb; omega) (by rw [hby]; exact growslice_fits (by omega) (by simp at hb; omega))
        have hg := grow [] 0 rfl rfl h0
        simp only [List.length_nil, Nat.zero_add] at hg hr
        refine ⟨_, _, hr, hg, gr _, .inr (bl_lit _ _ _ ?_)⟩
        have := grownCap_ge w s.size 0 5; omega
    · have hown0 := hown
      rcases hown with ⟨h, _⟩ | ⟨g, n, cap', cur, fr, h, hbg, hg, hfr, hnc, hcm, hcs, hl, htake⟩
      · cases h
      · simp only [Value.slice.injEq, Option.some.injEq, Addr.mk.injEq] at h
        obtain ⟨⟨rfl, _⟩, rfl, rfl⟩ := h
        simp only [Nat.mul_one] at hcs htake
        have hlen : (l ++ s.data.toList).length = l.length + s.size := by rw [List.length_append, hsz]
        by_cases hroom : l.length + s.size ≤ cap
        · have hf := run_firstCells_string (P := P) w 1 s
          have hst := storeCells_fr (P := P) b l.length 5 fr (strCells s) 0 cur w hg hfr (by rw [strCells_length]; omega) (strCells_oneCell s)
          simp only [Nat.add_zero, strCells_length] at hst
          have hr : (Builtin.append_ #[t, u] ty #[.slice (some ⟨b, 0, none⟩) l.length cap, .string s]).run P w =
              .ok (.slice (some ⟨b, 0, none⟩) (l.length + s.size) cap) (w.setRow b (cur.toList.take l.length ++ strCells s ++ cur.toList.drop (l.length + s.size)).toArray) := by
            simp [Builtin.append_, run_underlying ht, run_underlying hu, sizeOf, typeInfo, hi, hs1, Builtin.lenOf, hroom, hf, Addr.add_lit, hst]
          refine ⟨_, _, hr, .inr ⟨b, cap, by rw [hlen], hc, .inr ⟨b, _, cap, _, fr, rfl, Nat.zero_le _, setRow_heap w b cur _ _ _ hg, ?_, hroom, hcm, ?_, by rw [List.length_map, hlen, Nat.mul_one], ?_⟩⟩, ?_, .inl ?_⟩
          · rcases hfr with h | h
            · exact .inl h
            · refine .inr ?_
              simp only [List.size_toArray, List.length_append, List.length_take, List.length_drop, Array.length_toList, strCells_length]
              omega
          · simp only [List.size_toArray, List.length_append, List.length_take, List.length_drop, Array.length_toList, strCells_length]
            omega
          · rw [htake, strCells_w8, ← List.map_append, Nat.mul_one, ← hlen, ← List.length_map (f := w8)]
            exact List.take_left
          · rw [bl_lit _ _ _ hc]
            exact ⟨rfl, rfl, rfl, by simp, fun k _ hk => setRow_other w b k _ (fun e => hk (by rw [e]))⟩
          · rw [bl_lit _ _ _ hc, bl_lit _ _ _ hc]
        · have holds : ∀ j u, (l.map w8)[j]? = some u → w.cell? ((⟨b, 0, none⟩ : Addr).add j) = some u := by
            intro j u hu
            rw [Addr.add_lit]
            simp only [Nat.zero_add]
            rw [cell_of_row w b j cur 5 fr hg]
            rw [← htake, List.getElem?_take] at hu
            split at hu
            · simpa using hu
            · cases hu
          have hr := run_append_grow_string (P := P) w t u ty 5 i (.int .u8 0) ht hu hi hz ⟨b, 0, none⟩ l.length cap (l.map w8) (by rw [hs1]; simp) holds s (by omega) (by omega) (by rw [hby]; exact growslice_fits (by omega) (by omega))
          have hgw := grow l cap rfl rfl h0
          refine ⟨_, _, hr, hgw, gr _, .inr (bl_lit _ _ _ ?_)⟩
          have := grownCap_ge w (l.length + s.size) cap 5; omega
end Go.Proofs.Ytjicccjpooahoaa
