/- Several texts in one, without what this claim does not use (tools/shake.py). -/
import Derived.Test.YtaphpbiaoofmkaaGreatDoorKj7
import Derived.Test.YtaphpbiaoofmkaaGreatDoorChecked
import Derived.WalkKit
import Derived.ProofKit
import Derived.WalkSpells
import Derived.Lib.Hide
import Derived.WalkLawsBesides
import Derived.BigRegion
import Derived.RegionTactic
import Derived.BigQuiet
import Derived.Deep.RegionLaw
import Derived.Deep.RegionHeld3
import Derived.Shelf.Strings.Builder1
import Derived.Shelf.Strings.Builder2
import Derived.Shelf.Strings.OnBuilder
import Derived.Shelf.Bits.Mul64
import Derived.Ground.SlgmProg
import Derived.Shelf.SortM.Plain
import Derived.Shelf.SortM.SortNone
import Derived.Test.YtaphpbiaoofmkaaGreatDoorProg
set_option linter.unusedSectionVars false
set_option linter.unusedVariables false
set_option linter.unusedSimpArgs false
section
namespace Go.Proofs.YtaphpbiaoofmkaaGreatDoor
open Go.RowKit Sm
set_option maxRecDepth 100000
theorem ret_int {k : IntKind} {a b : Int} (h : a = b) : Ending.returned (.int k a) = .returned (.int k b) := by rw [h]
theorem val_int {k : IntKind} {a b : Int} (h : a = b) : Value.int k a = .int k b := by rw [h]
def rowU (w : World) (b : Nat) (t : TypeId) (n : Nat) (ws : List (BitVec 32)) : Prop := w.rowIs b t n (fun j => w32 (ws.getD j 0))
theorem rowU_push {w : World} {b : Nat} {t : TypeId} {n : Nat} {ws : List (BitVec 32)} (h : rowU w b t n ws) (x : BitVec 32) : rowU (w.setCell ⟨b, ws.length, none⟩ (w32 x)) b t n (ws ++ [x]) := by
 refine World.rowIs.congr (World.rowIs.set h ws.length (w32 x)) fun i _ => ?_
 rw [getD_app]
 split <;> rfl
theorem rowU_zero {w : World} {b : Nat} (n : Nat) (cs : Array Value) (t : TypeId) (hb : b = w.heap.size) (h : cs = (List.replicate n (Value.int .u32 0)).toArray) : rowU (w.alloc (.cells cs t)) b t n [] := by
 subst h hb
 have := World.rowIs_alloc w (List.replicate n (Value.int .u32 0)).toArray t (fun _ => w32 0) (fun i hi => by
  simp at hi
  simp [List.getElem?_replicate, hi]
  rfl)
 simpa [rowU] using this
theorem turn_any (x : BitVec 32) (n : Int) (w : World) (h0 : 0 < n) (h : n < 32) :
  Calls Tryz.prog 282 #[w32 x, .int .i64 n] w fun e w' => e = .returned (w32 (rot x n.toNat)) ∧ w = w' := by
 have e := rot_eq x n h0 h
 have E := Veil.mk e; clear e
 go_enter Tryz.func282, Tryz.ntmps282
 go_wp2
 go_ret
 rw [← E.out]
 exact ⟨rfl, rfl⟩
theorem rowU_nil {w : World} {b : Nat} {t : TypeId} {n : Nat} (h : rowU w b t n []) : rowU w b t n (List.replicate n 0) :=
 World.rowIs.congr h (fun i hi => by simp [List.getElem?_replicate, hi])
theorem rowU_heap {w : World} {b : Nat} {t : TypeId} {n : Nat} {ws : List (BitVec 32)} (h : rowU w b t n ws) (hl : ws.length = n) : w.heap[b]? = some (.cells (ws.map w32).toArray t (0, 0)) := by
 obtain ⟨cs, hc, hs, he⟩ := h
 rw [hc]
 have : cs = (ws.map w32).toArray := by
  apply Array.ext
  ·simp [hs, hl]
  ·intro i h1 h2
   have := he i (by omega)
   rw [Array.getElem?_eq_getElem h1] at this
   injection this with this
   rw [this]
   simp at h2
   simp [List.getElem?_eq_getElem h2]
 rw [this]
theorem info64 : (Tryz.prog.info? 220).map (·.size) = some 64 := by kernel_rfl
theorem info8 : (Tryz.prog.info? 199).map (·.size) = some 8 := by kernel_rfl
set_option maxRecDepth 100000 in
set_option maxHeartbeats 4000000 in
theorem sched_any (s : ByteArray) (w : World) (hs : s.size = 64) :
  Calls Tryz.prog 281 #[.string s] w fun e w' => e = .returned (.agg ((sched s.data.toList).map w32).toArray) ∧ Below w.heap.size w w' := by
 have Hs := Veil.mk hs; clear hs
 go_enter Tryz.func281, Tryz.ntmps281
 go_wp2
 go_loopw [4, 5, 11] (fun _ _ i wr => ∃ k : Nat, k ≤ 16 ∧ i = .int .i64 k ∧ rowU wr w.heap.size 220 64 [] ∧ rowU wr (w.heap.size + 1) 220 64 (firstW s.data.toList k) ∧ Below w.heap.size w wr) (fun _ _ i _ => 16 - (intOf i).toNat)
 case atStart =>
  refine ⟨0, by omega, rfl, World.rowIs.alloc (rowU_zero 64 _ _ rfl rfl) _, ?_, ?_⟩
  ·exact rowU_zero 64 _ _ (by simp) rfl
  ·exact ((Below.refl _ _).alloc (Nat.le_refl _) _).alloc (by simp) _
 case round =>
  obtain ⟨k, hk, rfl, h0, h1, hb⟩ := hrel
  by_cases hlt : k < 16
  ·have hs := Hs.out
   have a1 : 4 * k + 4 ≤ s.size := by omega
   clear hs
   have H0 := Veil.mk h0; clear h0
   have H1 := Veil.mk h1
   have c1 := h1.cell (i := k) (by omega)
   have f1 := h1.frozen k
   clear h1
   go_wp2
   generalize hx : s.extract (4 * k) (4 * k + 4) = x
   have ht : 4 ≤ x.size := by subst hx; rw [ByteArray.size_extract]; omega
   have key : ∀ i (h' : i < x.size) (_ : i < 4), x[i] = s.data.toList.getD (4 * k + i) 0 := by
    subst hx; intro i h' h; exact extract_getD s _ _ i (by omega) a1 h'
   have Key := Veil.mk key
   clear key hx
   have i0 : 0 < x.size := by omega
   have i1 : (1 : Int) < x.size := by omega
   have i2 : (2 : Int) < x.size := by omega
   have i3 : (3 : Int) < x.size := by omega
   go_region
   go_wp2
   go_roundw
   case rel =>
    have e := rowU_push H1.out (word4 x[0] x[1] x[2] x[3])
    rw [firstW_length] at e
    refine ⟨k + 1, by omega, by go_num, World.rowIs.setOther H0.out (by simp) _, ?_, (hb.setCell (by simp) _).drew⟩
    rw [firstW_snoc, wordAt]
    rw [Key.out 0 (by omega) (by omega), Key.out 1 (by omega) (by omega), Key.out 2 (by omega) (by omega), Key.out 3 (by omega) (by omega)] at e ⊢
    exact e
   case measure => simp [intOf]; omega
  ·have hk16 : 16 ≤ k := by omega
   clear hlt
   go_wp2
   go_loopw [6, 7, 8] (fun i _ _ wr => ∃ m : Nat, 16 ≤ m ∧ m ≤ 64 ∧ i = .int .i64 m ∧ rowU wr w.heap.size 220 64 [] ∧ rowU wr (w.heap.size + 1) 220 64 (schedN s.data.toList (m - 16)) ∧ Below w.heap.size w wr) (fun i _ _ _ => 64 - (intOf i).toNat)
   case atStart =>
    obtain rfl : k = 16 := by omega
    exact ⟨16, by omega, by omega, rfl, h0, h1, hb⟩
   case round =>
    obtain ⟨m, hm0, hm, rfl, h0, h1, hb⟩ := hrel
    by_cases hlt : m < 64
    ·have H0 := Veil.mk h0; clear h0
     have H1 := Veil.mk h1
     have c15 := h1.cell (i := m - 15) (by omega)
     have c2 := h1.cell (i := m - 2) (by omega)
     have c7 := h1.cell (i := m - 7) (by omega)
     have c16 := h1.cell (i := m - 16) (by omega)
     have c0 := h1.cell (i := m) (by omega)
     have f0 := h1.frozen m
     clear h1
     go_wp2
     go_quiet (fail)
     go_wp2_with (go_at_call 282; refine (turn_any _ _ _ (by omega) (by omega)).mono ?_; rintro e w' ⟨rfl, rfl⟩)
     go_region
     go_wp2
     go_roundw
     case rel =>
      have e := rowU_push H1.out (nextW (schedN s.data.toList (m - 16)) m)
      rw [schedN_length, show 16 + (m - 16) = m from by omega] at e
      refine ⟨m + 1, by omega, by omega, by go_num, World.rowIs.setOther H0.out (by simp) _, ?_, (belowDrewN (hb.setCell (by simp) _) _)⟩
      rw [show m + 1 - 16 = m - 16 + 1 from by omega, schedN, show 16 + (m - 16) = m from by omega]
      exact e
     case measure => simp [intOf]; omega
    ·have hm64 : 64 ≤ m := by omega
     have e : sched s.data.toList = schedN s.data.toList (m - 16) := by rw [sched, show m - 16 = 48 from by omega]
     have E := Veil.mk e; clear e
     have hl : (schedN s.data.toList (m - 16)).length = 64 := by rw [schedN_length]; omega
     generalize hws : schedN s.data.toList (m - 16) = ws at h1 hl
     have Ews := Veil.mk hws; clear hws hlt
     have hr0 := rowU_heap (rowU_nil h0) (by simp)
     have hr1 := rowU_heap h1 hl
     have Hr1 := Veil.mk hr1
     have Hr0 := Veil.mk hr0
     have Hl := Veil.mk hl
     clear h0 h1 hr0 hr1 hl
     have Hc : Veil (∀ j u, (ws.map w32)[j]? = some u → (ws.map w32).toArray[0 + j]? = some u) := ⟨fun j u hu => by simpa using hu⟩
     have Hf : Veil ((ws.map w32).length = (List.map w32 (List.replicate 64 0)).toArray.size) := ⟨by simp [Hl.out]⟩
     have Ho : Veil (∀ u ∈ ws.map w32, u.oneCell' = true) := ⟨oneCell_map32 _⟩
     have Hi : Veil (some 64 = some (ws.map w32).length) := ⟨by rw [List.length_map, Hl.out]⟩
     go_wp2_with (first
      | (refine ld_row rfl _ (.tmp 3) rfl (w.heap.size + 1) 0 rfl Hr1.out Tryz.underlying220 rfl (ws.map w32) (info64.trans Hi.out) Hc.out ?_)
      | (refine st_all rfl _ (.tmp 2) (.tmp 85) rfl w.heap.size rfl (ws.map w32) rfl Hr0.out (info64.trans Hi.out) Hf.out Ho.out ?_))
     refine bodyPost_ret (results_cell_row rfl _ _ w.heap.size _ _ _ _ rfl (setRow_heap wr w.heap.size _ _ _ _ Hr0.out) Tryz.underlying220 rfl (info64.trans (by rw [Hi.out]; simp))) rfl ?_
     exact ⟨by rw [E.out, Ews.out], belowSetRow hb (Nat.le_refl _) _⟩
def Tabs (w : World) : Prop := (∀ i, i < 64 → w.cell? ⟨1, i, none⟩ = some (w32 (tabK.getD i 0))) ∧ (∀ i, i < 8 → w.cell? ⟨0, i, none⟩ = some (w32 (init8.list.getD i 0)))
theorem Tabs.keep {w w' : World} (h : Tabs w) (hk : ∀ b, b < w.heap.size → w'.heap[b]? = w.heap[b]?) : Tabs w' := by
 refine ⟨fun i hi => ?_, fun i hi => ?_⟩
 ·rw [World.cell?_of_block (hk _ (World.block_lt_of_cell? w _ (h.1 i hi)))]
  exact h.1 i hi
 ·rw [World.cell?_of_block (hk _ (World.block_lt_of_cell? w _ (h.2 i hi)))]
  exact h.2 i hi
theorem Tabs.below {w w' : World} (h : Tabs w) {B : Nat} (hb : Below B w w') (hB : w.heap.size ≤ B) : Tabs w' := h.keep fun b hlt => hb.block b (by omega)
theorem Tabs.drew {w : World} (h : Tabs w) : Tabs w.drew := h
theorem Tabs.alloc {w : World} (h : Tabs w) (o : Obj) : Tabs (w.alloc o) := h.keep fun b hb => heap_alloc_old w o hb
set_option maxRecDepth 100000 in
set_option maxHeartbeats 4000000 in
theorem mix_any (st : S8) (s : ByteArray) (w : World) (hs : s.size = 64) (hT : Tabs w) :
  Calls Tryz.prog 246 #[.agg st.cells.toArray, .string s] w fun e w' => e = .returned (.agg (mix8 st s.data.toList).cells.toArray) ∧ Below w.heap.size w w' := by
 have Hs := Veil.mk hs; clear hs
 have HT := Veil.mk hT; clear hT
 obtain ⟨va, vb, vc, vd, ve, vf, vg, vh⟩ := st
 simp only [S8.cells]
 go_enter Tryz.func246, Tryz.ntmps246
 go_wp2_with (first
  | (go_at_call 281; refine (sched_any s _ Hs.out).mono ?_; rintro e w1 ⟨rfl, hb1⟩)
  | (refine st_new _ rfl _ (.tmp 5) (.tmp 18) rfl rfl ((sched s.data.toList).map w32) rfl ?_ ?_ (oneCell_map32 _) ?_))
 ·exact info64.trans (by rw [List.length_map, sched_length])
 ·rw [List.length_map, sched_length]; rfl
 have hbs : Below w.heap.size w w1 := (((Below.refl _ _).alloc (Nat.le_refl _) _).alloc (by simp) _).trans (hb1.mono (by simp; omega))
 have hsz : w.heap.size + 2 ≤ w1.heap.size := by have := hb1.size; simp at this; omega
 have g0 : w1.heap[w.heap.size]? = some (.cells #[w32 va, w32 vb, w32 vc, w32 vd, w32 ve, w32 vf, w32 vg, w32 vh] 199 (0, 0)) :=
  (hb1.block _ (by simp; omega)).trans (heap_alloc2_old w _ _)
 have g1 : w1.heap[w.heap.size + 1]? = some (.cells #[.int .u32 0, .int .u32 0, .int .u32 0, .int .u32 0, .int .u32 0, .int .u32 0, .int .u32 0, .int .u32 0] 199 (0, 0)) :=
  (hb1.block _ (by simp)).trans (heap_alloc2_new w _ _)
 have hT1 : Tabs w1 := HT.out.below hbs (Nat.le_refl _)
 clear hb1
 have k0 : (w1.alloc (.cells ((sched s.data.toList).map w32).toArray 220)).heap[w.heap.size]? = _ := (heap_alloc_old w1 _ (by omega)).trans g0
 have k1 : (w1.alloc (.cells ((sched s.data.toList).map w32).toArray 220)).heap[w.heap.size + 1]? = _ := (heap_alloc_old w1 _ (by omega)).trans g1
 have k2 := heap_alloc_new w1 (.cells ((sched s.data.toList).map w32).toArray 220)
 have kT := hT1.alloc (.cells ((sched s.data.toList).map w32).toArray 220)
 have kb := hbs.alloc hbs.size (.cells ((sched s.data.toList).map w32).toArray 220)
 clear g0 g1 hT1 hbs
 generalize w1.alloc (.cells ((sched s.data.toList).map w32).toArray 220) = w2 at k0 k1 k2 kT kb ⊢
 generalize hW : w1.heap.size = bw at k2 hsz ⊢
 clear hW
 have x0 := cell_of_row w2 w.heap.size 0 _ _ _ k0
 have x1 := cell_of_row w2 w.heap.size 1 _ _ _ k0
 have x2 := cell_of_row w2 w.heap.size 2 _ _ _ k0
 have x3 := cell_of_row w2 w.heap.size 3 _ _ _ k0
 have x4 := cell_of_row w2 w.heap.size 4 _ _ _ k0
 have x5 := cell_of_row w2 w.heap.size 5 _ _ _ k0
 have x6 := cell_of_row w2 w.heap.size 6 _ _ _ k0
 have x7 := cell_of_row w2 w.heap.size 7 _ _ _ k0
 have K0 := Veil.mk k0
 have K1 := Veil.mk k1
 have K2 := Veil.mk k2
 have KT := Veil.mk kT
 have Kb := Veil.mk kb
 clear k0 k1 k2 kT kb
 go_wp2
 go_quiet (fail)
 go_wp2
 go_quiet (fail)
 clear x0 x1 x2 x3 x4 x5 x6 x7
 go_wp2
 go_loopw [6, 7, 8, 9, 10, 11, 12, 13, 14, 15, 16, 35] (fun a b c d e f g h _ _ _ i wr => ∃ n r : Nat, n ≤ 64 ∧ i = .int .i64 n ∧ wr = w2.drewN r ∧ ∃ st : S8, st = rounds8 s.data.toList ⟨va, vb, vc, vd, ve, vf, vg, vh⟩ n ∧ a = w32 st.a ∧ b = w32 st.b ∧ c = w32 st.c ∧ d = w32 st.d ∧ e = w32 st.e ∧ f = w32 st.f ∧ g = w32 st.g ∧ h = w32 st.h) (fun _ _ _ _ _ _ _ _ _ _ _ i _ => 64 - (intOf i).toNat)
 case atStart => exact ⟨0, _, by omega, rfl, World.drewN_drewN _ _ _, _, rfl, rfl, rfl, rfl, rfl, rfl, rfl, rfl, rfl⟩
 case round =>
  obtain ⟨n, r, hn, rfl, rfl, ⟨sa, sb, sc, sd, se, sf, sg, sh⟩, hst, rfl, rfl, rfl, rfl, rfl, rfl, rfl, rfl⟩ := hrel
  have Hst := Veil.mk hst; clear hst
  by_cases hlt : n < 64
  ·have cK : (w2.drewN r).cell? ⟨1, n, none⟩ = some (w32 (tabK.getD n 0)) := KT.out.1 n hlt
   have cW : (w2.drewN r).cell? ⟨bw, n, none⟩ = some (w32 ((sched s.data.toList).getD n 0)) := by
    show w2.cell? _ = _
    rw [cell_of_row w2 bw n _ _ _ K2.out]
    simp [List.getD_eq_getElem?_getD, List.getElem?_eq_getElem (show n < (sched s.data.toList).length from by rw [sched_length]; exact hlt)]
   generalize hk : tabK.getD n 0 = kn at cK
   generalize hx : (sched s.data.toList).getD n 0 = xn at cW
   have Hk := Veil.mk hk; clear hk
   have Hx := Veil.mk hx; clear hx
   generalize hwr : w2.drewN r = wr at cK cW ⊢
   have Hwr := Veil.mk hwr; clear hwr
   go_wp2
   go_quiet ((go_at_call 282; exact Calls.quiet_of_same ((turn_any _ _ _ (by omega) (by omega)).mono fun _ _ h => ⟨h.1, h.2.symm⟩)))
   go_wp2_with (go_at_call 282; refine (turn_any _ _ _ (by omega) (by omega)).mono ?_; rintro e w' ⟨rfl, rfl⟩)
   go_roundw
   case rel =>
    refine ⟨n + 1, _, by omega, by go_num, by rw [← Hwr.out]; exact World.drewN_drewN _ _ _, round8 kn xn ⟨sa, sb, sc, sd, se, sf, sg, sh⟩, ?_, ?_⟩
    ·rw [rounds8, ← Hst.out, Hk.out, Hx.out]
    ·exact ⟨rfl, rfl, rfl, rfl, rfl, rfl, rfl, rfl⟩
   case measure => simp [intOf]; omega
  ·have hn64 : 64 ≤ n := by omega
   have hm : mix8 ⟨va, vb, vc, vd, ve, vf, vg, vh⟩ s.data.toList = S8.add ⟨va, vb, vc, vd, ve, vf, vg, vh⟩ ⟨sa, sb, sc, sd, se, sf, sg, sh⟩ := by
    obtain rfl : n = 64 := by omega
    rw [mix8, ← Hst.out]
   have Hm := Veil.mk hm; clear hm hlt
   have k0 : (w2.drewN r).heap[w.heap.size]? = _ := K0.out
   have k1 : (w2.drewN r).heap[w.heap.size + 1]? = _ := K1.out
   have kb := belowDrewN Kb.out r
   generalize w2.drewN r = wr at k0 k1 kb ⊢
   have x0 := cell_of_row wr w.heap.size 0 _ _ _ k0
   have x1 := cell_of_row wr w.heap.size 1 _ _ _ k0
   have x2 := cell_of_row wr w.heap.size 2 _ _ _ k0
   have x3 := cell_of_row wr w.heap.size 3 _ _ _ k0
   have x4 := cell_of_row wr w.heap.size 4 _ _ _ k0
   have x5 := cell_of_row wr w.heap.size 5 _ _ _ k0
   have x6 := cell_of_row wr w.heap.size 6 _ _ _ k0
   have x7 := cell_of_row wr w.heap.size 7 _ _ _ k0
   have K1 := Veil.mk k1
   have Kb := Veil.mk kb
   clear k0 k1 kb
   have Hi : Veil (some 8 = some [w32 (va + sa), w32 (vb + sb), w32 (vc + sc), w32 (vd + sd), w32 (ve + se), w32 (vf + sf), w32 (vg + sg), w32 (vh + sh)].length) := ⟨rfl⟩
   go_wp2_with (refine st_all rfl _ (.tmp 4) (.tmp 130) rfl (w.heap.size + 1) rfl [w32 (va + sa), w32 (vb + sb), w32 (vc + sc), w32 (vd + sd), w32 (ve + se), w32 (vf + sf), w32 (vg + sg), w32 (vh + sh)] rfl K1.out (info8.trans Hi.out) rfl (by simp [Value.oneCell', w32]) ?_)
   refine bodyPost_ret (results_cell_row rfl _ _ (w.heap.size + 1) _ _ _ _ rfl (setRow_heap wr (w.heap.size + 1) _ _ _ _ K1.out) Tryz.underlying199 rfl (info8.trans Hi.out)) rfl ?_
   exact ⟨by rw [Hm.out]; rfl, belowSetRow Kb.out (by omega) _⟩
theorem elem8 : ElemOk Tryz.prog 142 5 1 1 := ElemOk.mk' (z := .int .u8 0) Tryz.underlying142 (by kernel_rfl) rfl (by omega)
def lenOf : Value → Nat | .slice _ n _ => n | _ => 0
set_option maxHeartbeats 1000000 in
theorem ending_any (s : ByteArray) (n : Int) (w : World) (hs : s.size ≤ 64) :
  Calls Tryz.prog 247 #[.string s, .int .i64 n] w fun e w' => e = .returned (.string ⟨(ending s.data.toList n).toArray⟩) ∧ Below w.heap.size w w' := by
 have hm : s.size ≤ maxLen := by unfold maxLen; omega
 go_enter Tryz.func247, Tryz.ntmps247
 go_wp2_with (first
  | (refine bytes_arm w rfl _ _ (.tmp 8) rfl 5 s rfl Tryz.underlying9 Tryz.underlying142 Tryz.underlying5 hm (base := w.heap.size) (Nat.le_refl _) ?_; intro v0 w0 own0 gr0 hx; clear hx)
  | (at_builtin; refine ap_lit w0 rfl _ _ _ rfl elem8 [.int .u8 128] own0 rfl rfl ?_ ?_ ?_ ?_ ?_))
 ·exact one1 rfl
 ·simp; omega
 ·simp; omega
 ·exact gr0.size
 intro v1 w1 own1 gr1
 have hb1 : Below w.heap.size w w1 := belowOwn ((Below.refl _ _).grown gr0 (Nat.le_refl _) (fun k hk => by cases hk)) gr1 own0 (Nat.le_refl _) gr0.size
 have own1' : Own w1 w.heap.size 5 1 v1 ((endZ s.data.toList 0).map w8) := by
  rw [show ((endZ s.data.toList 0).map w8) = s.data.toList.map w8 ++ [.int .u8 128] from by simp [endZ]; rfl]
  exact own1
 clear own0 gr0 gr1 own1
 have hl : s.data.toList.length = s.size := by simp
 generalize hs0 : s.data.toList = l at own1' hl ⊢
 have Hl := Veil.mk hl
 have Hs0 := Veil.mk hs0
 clear hl hs0
 go_wp2
 go_loopw [5] (fun v wr => ∃ (N z : Nat) (A : Option Addr) (c : Nat), v = .slice A N c ∧ Veil (N = l.length + 1 + z) ∧ z ≤ zerosN (l.length + 1) ∧ Own wr w.heap.size 5 1 (.slice A N c) ((endZ l z).map w8) ∧ Below w.heap.size w wr) (fun v _ => l.length + 1 + zerosN (l.length + 1) - lenOf v)
 case atStart =>
  obtain ⟨A, c, rfl⟩ := own1'.len1
  exact ⟨_, 0, A, c, rfl, ⟨by rw [List.length_map, endZ_length]⟩, Nat.zero_le _, own1', hb1⟩
 case round =>
  obtain ⟨N, z, A, c, rfl, HN, hz, hown, hb⟩ := hrel
  have hzl := zerosN_le (l.length + 1)
  have hNs : N ≤ 200 := by have := HN.out; have := Hl.out; omega
  have hmod : ((N : Int) % 64 != 56) = decide (z < zerosN (l.length + 1)) := by
   have h1 := zerosN_at (l.length + 1)
   have h2 := zerosN_before (l.length + 1) z
   rw [HN.out]
   by_cases hlt : z < zerosN (l.length + 1)
   ·have := h2 hlt
    simp only [hlt, decide_true, bne_iff_ne]
    omega
   ·obtain rfl : z = zerosN (l.length + 1) := by omega
    simp only [hlt, decide_false, bne_eq_false_iff_eq]
    omega
  have hle := hb.size
  by_cases hlt : z < zerosN (l.length + 1)
  ·have ht : ((N : Int) % 64 != 56) = true := by rw [hmod]; simpa using hlt
   clear hmod
   go_wp2_with (at_builtin; refine ap_lit wr rfl _ _ _ rfl elem8 [.int .u8 0] hown rfl rfl ?_ ?_ ?_ hle ?_; rotate_left 3; intro v' w' own' gr')
   rotate_left 1
   ·exact one1 rfl
   ·rw [List.length_map, endZ_length, ← HN.out]; simp; omega
   ·rw [List.length_map, endZ_length, ← HN.out]; simp; omega
   have hb' := belowOwn hb gr' hown (Nat.le_refl _) hle
   have own2 : Own w' w.heap.size 5 1 v' ((endZ l (z + 1)).map w8) := by rw [endZ_snoc, List.map_append]; exact own'
   clear own' gr' hown hb
   go_wp2
   go_roundw
   obtain ⟨A', c', rfl⟩ := own2.len1
   case rel => exact ⟨_, z + 1, A', c', rfl, ⟨by rw [List.length_map, endZ_length]⟩, by omega, own2, hb'⟩
   case measure =>
    obtain ⟨A', c', rfl⟩ := own2.len1
    simp only [lenOf, List.length_map, endZ_length]
    have := HN.out
    omega
  ·have ht : ((N : Int) % 64 != 56) = false := by rw [hmod]; simpa using hlt
   obtain rfl : z = zerosN (l.length + 1) := by omega
   clear hmod
   go_wp2
   go_loopw [5, 7] (fun v i wr => ∃ (M j : Nat) (A : Option Addr) (c : Nat), v = .slice A M c ∧ j ≤ 8 ∧ i = .int .i64 (56 - 8 * (j : Int)) ∧ Own wr w.heap.size 5 1 (.slice A M c) ((endZ l (zerosN (l.length + 1)) ++ beN (BitVec.ofInt 64 n * 8#64) j).map w8) ∧ Below w.heap.size w wr) (fun _ i _ => (intOf i + 8).toNat)
   case atStart => exact ⟨N, 0, A, c, rfl, by omega, rfl, by simpa [beN] using hown, hb⟩
   case round =>
    obtain ⟨M, j, A', c', rfl, hj, rfl, hown, hb⟩ := hrel
    have hle := hb.size
    have hlen : (endZ l (zerosN (l.length + 1)) ++ beN (BitVec.ofInt 64 n * 8#64) j).length ≤ 200 := by
     rw [List.length_append, endZ_length]
     have : (beN (BitVec.ofInt 64 n * 8#64) j).length ≤ 8 := by simp [beN, be8]; omega
     have := Hl.out
     omega
    by_cases hlt : j < 8
    ·have hge : (0 : Int) ≤ 56 - 8 * (j : Int) := by omega
     go_wp2_with (at_builtin; refine ap_lit wr rfl _ _ _ rfl elem8 [_] hown rfl rfl ?_ ?_ ?_ hle ?_; rotate_left 3; intro v' w' own' gr')
     rotate_left 1
     ·exact one1 rfl
     ·rw [List.length_map]; simp only [List.length_singleton]; omega
     ·rw [List.length_map]; simp only [List.length_singleton]; omega
     have hb' := belowOwn hb gr' hown (Nat.le_refl _) hle
     have own2 : Own w' w.heap.size 5 1 v' ((endZ l (zerosN (l.length + 1)) ++ beN (BitVec.ofInt 64 n * 8#64) (j + 1)).map w8) := by
      rw [beN_snoc _ _ hlt, ← List.append_assoc, List.map_append]; exact own'
     clear own' gr' hown hb
     obtain ⟨A2, c2, rfl⟩ := own2.len1
     go_wp2
     go_roundw
     case rel => exact ⟨_, j + 1, A2, c2, rfl, by omega, by go_num, own2, hb'⟩
     case measure => simp [intOf]; omega
    ·obtain rfl : j = 8 := by omega
     have hc := str_run (P := Tryz.prog) wr 142 9 5 Tryz.underlying142 Tryz.underlying5 Tryz.underlying9 hown.rd
     go_wp2
     go_ret
     exact ⟨by rw [Hs0.out]; rfl, hb⟩
theorem idx8 (st : S8) (j : Nat) (hj : j < 8) : ∀ W : World, (Instr.index 199 (.agg st.cells.toArray) (.int .i64 (j : Int))).run Tryz.prog W = .ok (w32 (st.list.getD j 0)) W := by
 intro W
 rcases j with _ | _ | _ | _ | _ | _ | _ | _ | j
 all_goals first | omega | kernel_rfl
theorem keep1 {w w1 : World} {g : Nat} {o : Obj} (hb : Below w.drew.heap.size w.drew w1) (hlt : g < w.heap.size) (h : w.heap[g]? = some o) : w1.heap[g]? = some o := (hb.block g hlt).trans h
set_option maxRecDepth 100000 in
set_option maxHeartbeats 400000 in
theorem sha_any (s : ByteArray) (w : World) (hs : s.size ≤ 9223372036854775807) (hT : Tabs w) :
  Calls Tryz.prog 145 #[.string s] w fun e w' => e = .returned (.string ⟨(sha s.data.toList).toArray⟩) ∧ Below w.heap.size w w' := by
 have HT := Veil.mk hT
 have HI : Veil (∀ j u, init8.cells[j]? = some u → w.cell? ⟨0, 0 + j, none⟩ = some u) := ⟨fun j u hu => by
  rw [Nat.zero_add]
  have hj : j < 8 := (List.getElem?_eq_some_iff.1 hu).1
  rw [hT.2 j hj]
  rw [← hu]
  rcases j with _ | _ | _ | _ | _ | _ | _ | _ | j
  all_goals first | omega | rfl⟩
 clear hT
 have Hc8 : Veil (∀ (st : S8) j u, st.cells[j]? = some u → st.cells.toArray[0 + j]? = some u) := ⟨fun st j u hu => by simpa using hu⟩
 have Ho8 : Veil (∀ (st : S8), ∀ u ∈ st.cells, u.oneCell' = true) := ⟨fun st u hu => by
  simp only [S8.cells, List.mem_cons, List.not_mem_nil, or_false] at hu
  rcases hu with rfl | rfl | rfl | rfl | rfl | rfl | rfl | rfl <;> rfl⟩
 go_enter Tryz.func145, Tryz.ntmps145
 go_wp2_with (first
  | (refine ld_cells rfl _ (.global 0) rfl 0 0 rfl Tryz.underlying199 rfl init8.cells info8 HI.out ?_)
  | (refine st_new _ rfl _ (.tmp 3) (.tmp 8) rfl rfl init8.cells rfl info8 rfl (Ho8.out _) ?_))
 have k0 := heap_alloc_new w (.cells init8.cells.toArray 199)
 have b0 := (Below.refl w.heap.size w).alloc (Nat.le_refl _) (.cells init8.cells.toArray 199)
 generalize w.alloc (.cells init8.cells.toArray 199) = w2 at k0 b0 ⊢
 go_loopw [4] (fun r wr => ∃ (n : Nat) (x : ByteArray), r = .string x ∧ x.size ≤ 9223372036854775807 ∧ Veil (x.data.toList = s.data.toList.drop (64 * n)) ∧ 64 * n ≤ s.size ∧ wr.heap[w.heap.size]? = some (.cells (absorb s.data.toList init8 n).cells.toArray 199 (0, 0)) ∧ Below w.heap.size w wr) (fun r _ => match r with | .string x => x.size | _ => 0)
 case atStart => exact ⟨0, s, rfl, hs, ⟨by simp⟩, by omega, k0, b0⟩
 case round =>
  obtain ⟨n, x, rfl, hx, Hx, hn, k, hb⟩ := hrel
  have hxl : x.size = s.size - 64 * n := by have := congrArg List.length Hx.out; simpa using this
  have Hxl := Veil.mk hxl; clear hxl
  have HTr := Veil.mk (HT.out.below hb (Nat.le_refl _))
  have K := Veil.mk k; clear k
  have Hb := Veil.mk hb; clear hb
  by_cases hlt : 64 ≤ x.size
  ·go_wp2
   have hgl := (Array.getElem?_eq_some_iff.1 K.out).1
   refine wp_region_still_tail 3 (by kernel_rfl) (by kernel_rfl) ?_
   simp only [List.take_succ_cons, List.take_zero, List.drop_succ_cons, List.drop_zero]
   refine still_ld_row rfl _ (.tmp 3) rfl w.heap.size 0 rfl K.out Tryz.underlying199 rfl (absorb s.data.toList init8 n).cells (info8.trans (congrArg some (cells_length _).symm)) (Hc8.out _) ?_
   repeat still_step
   refine wpStill_nil ?_
   change wpList _ _ _ _ _ wr.drew
   go_wp2_with (first
    | (go_at_call 246; refine (mix_any (absorb s.data.toList init8 n) _ _ (size64 x hlt) HTr.out.drew).mono ?_; rintro e w1 ⟨rfl, hb1⟩; generalize hs2 : mix8 (absorb s.data.toList init8 n) (x.extract 0 64).data.toList = st2; have Hs2 := Veil.mk hs2; clear hs2; have hk1 := Veil.mk (keep1 hb1 hgl K.out); have Hb1 := Veil.mk hb1; clear hb1)
    | (refine st_all rfl _ (.tmp 3) (.tmp 16) rfl w.heap.size rfl st2.cells rfl hk1.out (info8.trans (congrArg some (cells_length st2).symm)) (cells_fit st2 _) (Ho8.out _) ?_))
   have hk := Veil.mk (setRow_heap w1 w.heap.size _ st2.cells.toArray _ _ hk1.out)
   have hbe := Veil.mk (belowSetRow (Hb.out.drew.trans (Hb1.out.mono Hb.out.size)) (Nat.le_refl _) st2.cells.toArray)
   generalize w1.setRow w.heap.size st2.cells.toArray = w3 at hk hbe ⊢
   go_roundw
   case rel =>
    have hx64 := drop64 x x.size (Nat.le_refl _)
    refine ⟨n + 1, _, rfl, ?_, ⟨?_⟩, ?_, ?_, hbe.out⟩
    ·rw [ByteArray.size_extract]; omega
    ·rw [hx64, Hx.out, List.drop_drop]; congr 1
    ·have := Hxl.out; omega
    ·rw [absorb]
     rw [← Hx.out, ← take64, Hs2.out]
     exact hk.out
   case measure => simp only [ByteArray.size_extract]; omega
  ·have hnq : s.size / 64 = n := by have := Hxl.out; omega
   have Hnq := Veil.mk hnq; clear hnq
   generalize hst : absorb s.data.toList init8 n = st1
   have Hst := Veil.mk hst; clear hst
   go_wp2_with (go_at_call 247; refine (ending_any x _ _ (by omega)).mono ?_; rintro e w1 ⟨rfl, hb1⟩)
   have hblk := ending_blocks x.data.toList s.size
   have htl := ending_length x.data.toList s.size
   generalize hT : Sm.ending x.data.toList s.size = T at hblk htl ⊢
   have HTl := Veil.mk hT; clear hT
   have hk1 := Veil.mk ((hb1.block _ ((Array.getElem?_eq_some_iff.1 K.out).1)).trans K.out)
   have hb1' := Veil.mk (Hb.out.trans (hb1.mono Hb.out.size))
   have hTs : T.length ≤ 300 := by
    have := zerosN_le (x.data.toList.length + 1)
    have : x.data.toList.length = x.size := by simp
    omega
   clear hb1 htl
   have Hblk := Veil.mk hblk; clear hblk
   go_loopw [4] (fun r wr => ∃ (n : Nat) (x : ByteArray), r = .string x ∧ x.size ≤ 300 ∧ Veil (x.data.toList = T.drop (64 * n)) ∧ 64 * n ≤ T.length ∧ Veil (wr.heap[w.heap.size]? = some (.cells (absorb T st1 n).cells.toArray 199 (0, 0))) ∧ Veil (Below w.heap.size w wr)) (fun r _ => match r with | .string x => x.size | _ => 0)
   case atStart => exact ⟨0, _, rfl, by simpa [ByteArray.size] using hTs, ⟨by simp⟩, by omega, ⟨by rw [absorb, ← Hst.out]; exact hk1.out⟩, hb1'⟩
   case round =>
    obtain ⟨m, y, rfl, hy, Hy, hm, K, Hb⟩ := hrel
    have hyl : y.size = T.length - 64 * m := by have := congrArg List.length Hy.out; simpa using this
    have Hyl := Veil.mk hyl; clear hyl
    have HTr := Veil.mk (HT.out.below Hb.out (Nat.le_refl _))
    by_cases hlt : 0 < y.size
    ·have h64 : 64 ≤ y.size := by have := Hyl.out; have := Hblk.out; omega
     have hem := nonempty_of hlt
     have h64i : (64 : Int) ≤ y.size := by omega
     have hgl := (Array.getElem?_eq_some_iff.1 K.out).1
     go_wp2
     refine wp_region_still_tail 3 (by kernel_rfl) (by kernel_rfl) ?_
     simp only [List.take_succ_cons, List.take_zero, List.drop_succ_cons, List.drop_zero]
     refine still_ld_row rfl _ (.tmp 3) rfl w.heap.size 0 rfl K.out Tryz.underlying199 rfl (absorb T st1 m).cells (info8.trans (congrArg some (cells_length _).symm)) (Hc8.out _) ?_
     repeat still_step
     refine wpStill_nil ?_
     change wpList _ _ _ _ _ wr.drew
     go_wp2_with (first
      | (go_at_call 246; refine (mix_any (absorb T st1 m) _ _ (size64 y h64) HTr.out.drew).mono ?_; rintro e w1 ⟨rfl, hb1⟩; generalize hs2 : mix8 (absorb T st1 m) (y.extract 0 64).data.toList = st2; have Hs2 := Veil.mk hs2; clear hs2; have hk1 := Veil.mk (keep1 hb1 hgl K.out); have Hb1 := Veil.mk hb1; clear hb1)
      | (refine st_all rfl _ (.tmp 3) (.tmp 30) rfl w.heap.size rfl st2.cells rfl hk1.out (info8.trans (congrArg some (cells_length st2).symm)) (cells_fit st2 _) (Ho8.out _) ?_))
     have hk := Veil.mk (setRow_heap w1 w.heap.size _ st2.cells.toArray _ _ hk1.out)
     have hbe := Veil.mk (belowSetRow (Hb.out.drew.trans (Hb1.out.mono Hb.out.size)) (Nat.le_refl _) st2.cells.toArray)
     generalize w1.setRow w.heap.size st2.cells.toArray = w3 at hk hbe ⊢
     go_roundw
     case rel =>
      have hx64 := drop64 y y.size (Nat.le_refl _)
      refine ⟨m + 1, _, rfl, ?_, ⟨?_⟩, ?_, ⟨?_⟩, hbe⟩
      ·rw [ByteArray.size_extract]; omega
      ·rw [hx64, Hy.out, List.drop_drop]; congr 1
      ·have := Hyl.out; omega
      ·rw [absorb]
       rw [← Hy.out, ← take64, Hs2.out]
       exact hk.out
     case measure => simp only [ByteArray.size_extract]; omega
    ·have hem := empty_of hlt
     have hmq : T.length / 64 = m := by have := Hyl.out; omega
     have hfin : shaState s.data.toList = absorb T st1 m := by
      have hsl : s.data.toList.length = s.size := by simp
      rw [shaState, hsl, Hnq.out, Hst.out, ← hmq, ← HTl.out, Hx.out]
     have Hfin := Veil.mk hfin; clear hfin hmq
     have hgl := (Array.getElem?_eq_some_iff.1 K.out).1
     generalize hst : absorb T st1 m = st at K Hfin
     clear hst
     have H32 : Veil ((32 : Nat) ≤ maxLen) := ⟨by unfold maxLen; omega⟩
     have hmk : ∀ W : World, (Instr.makeSlice 142 (.int .i64 0) (.int .i64 32)).run Tryz.prog W = .ok (.slice (some ⟨W.heap.size, 0, none⟩) 0 32) (W.alloc (.cells #[.int .u8 0, .int .u8 0, .int .u8 0, .int .u8 0, .int .u8 0, .int .u8 0, .int .u8 0, .int .u8 0, .int .u8 0, .int .u8 0, .int .u8 0, .int .u8 0, .int .u8 0, .int .u8 0, .int .u8 0, .int .u8 0, .int .u8 0, .int .u8 0, .int .u8 0, .int .u8 0, .int .u8 0, .int .u8 0, .int .u8 0, .int .u8 0, .int .u8 0, .int .u8 0, .int .u8 0, .int .u8 0, .int .u8 0, .int .u8 0, .int .u8 0, .int .u8 0] 5)) := fun _ => by kernel_rfl
     go_wp2_with (refine ld_row rfl _ (.tmp 3) rfl w.heap.size 0 rfl ((heap_alloc_old _ _ hgl).trans K.out) Tryz.underlying199 rfl st.cells (info8.trans (congrArg some (cells_length _).symm)) (Hc8.out _) ?_)
     have own0 : Own (wr.alloc (.cells #[.int .u8 0, .int .u8 0, .int .u8 0, .int .u8 0, .int .u8 0, .int .u8 0, .int .u8 0, .int .u8 0, .int .u8 0, .int .u8 0, .int .u8 0, .int .u8 0, .int .u8 0, .int .u8 0, .int .u8 0, .int .u8 0, .int .u8 0, .int .u8 0, .int .u8 0, .int .u8 0, .int .u8 0, .int .u8 0, .int .u8 0, .int .u8 0, .int .u8 0, .int .u8 0, .int .u8 0, .int .u8 0, .int .u8 0, .int .u8 0, .int .u8 0, .int .u8 0] 5)) w.heap.size 5 1 (.slice (some ⟨wr.heap.size, 0, none⟩) 0 32) [] := Own.made Hb.out.size H32.out rfl
     have hb3 := Hb.out.alloc Hb.out.size (.cells #[.int .u8 0, .int .u8 0, .int .u8 0, .int .u8 0, .int .u8 0, .int .u8 0, .int .u8 0, .int .u8 0, .int .u8 0, .int .u8 0, .int .u8 0, .int .u8 0, .int .u8 0, .int .u8 0, .int .u8 0, .int .u8 0, .int .u8 0, .int .u8 0, .int .u8 0, .int .u8 0, .int .u8 0, .int .u8 0, .int .u8 0, .int .u8 0, .int .u8 0, .int .u8 0, .int .u8 0, .int .u8 0, .int .u8 0, .int .u8 0, .int .u8 0, .int .u8 0] 5)
     go_loopw [5, 7, 33] (fun v _ i wx => ∃ j : Nat, j ≤ 8 ∧ i = .int .i64 j ∧ Own wx w.heap.size 5 1 v (((st.list.take j).flatMap be4).map w8) ∧ Below w.heap.size w wx) (fun _ _ i _ => 8 - (intOf i).toNat)
     case atStart => exact ⟨0, by omega, rfl, own0, hb3⟩
     case round =>
      obtain ⟨j, hj, rfl, hown, hbx⟩ := hrel
      have hle := hbx.size
      by_cases hlt : j < 8
      ·have hi := idx8 st j hlt
       have hlen : ((st.list.take j).flatMap be4).length ≤ 32 := by
        rcases j with _ | _ | _ | _ | _ | _ | _ | _ | j
        all_goals first | (simp [S8.list, be4]; done) | omega
       generalize hxj : st.list.getD j 0 = xj at hi
       have Hxj := Veil.mk hxj; clear hxj
       have Hlen := Veil.mk hlen; clear hlen
       go_wp2_with (at_builtin; refine ap_lit wr rfl _ _ _ rfl elem8 [_, _, _, _] hown rfl rfl ?_ ?_ ?_ hle ?_; rotate_left 3; intro v' w' own' gr')
       rotate_left 1
       ·exact oneCell_map8 (be4 xj)
       ·rw [List.length_map]; have := Hlen.out; simp only [List.length_cons, List.length_nil]; omega
       ·rw [List.length_map]; have := Hlen.out; simp only [List.length_cons, List.length_nil]; omega
       have own2 : Own w' w.heap.size 5 1 v' (((st.list.take (j + 1)).flatMap be4).map w8) := by
        rw [digest_snoc _ _ hlt, List.map_append, Hxj.out]; exact own'
       have hb' := belowOwn hbx gr' hown (Nat.le_refl _) hle
       clear own' gr' hown hbx
       go_wp2
       go_roundw
       case rel => exact ⟨j + 1, by omega, by go_num, own2, hb'⟩
       case measure => simp [intOf]; omega
      ·obtain rfl : j = 8 := by omega
       have hc := str_run (P := Tryz.prog) wr 142 9 5 Tryz.underlying142 Tryz.underlying5 Tryz.underlying9 hown.rd
       go_wp2
       go_ret
       exact ⟨by rw [sha, Hfin.out]; rfl, hbx⟩
theorem num_any (s : ByteArray) (w : World) (hs : s.size ≤ 9223372036854775807) :
  Calls Tryz.prog 265 #[.string s] w fun e w' => e = .returned (.int .i64 (num s.data.toList)) ∧ w = w' := by
 go_enter Tryz.func265, Tryz.ntmps265
 go_wp2
 go_loop [3, 4, 5] (fun r _ i => ∃ k : Nat, k ≤ 8 ∧ i = .int .i64 k ∧ r = w64 (BitVec.ofNat 64 (nat8 s.data.toList k))) (fun _ _ i => 8 - (intOf i).toNat)
 case atStart => exact ⟨0, by omega, rfl, rfl⟩
 case round =>
  obtain ⟨k, hk, rfl, rfl⟩ := hrel
  by_cases hlt : k < 8
  ·have st := num_step s.data.toList k hlt
   have sk := num_skip s.data.toList k hlt
   have ek : ∀ (h : k < s.size), s.data.toList.getD k 0 = s[k] := by
    intro h
    rw [List.getD_eq_getElem?_getD, List.getElem?_eq_getElem (by simpa using h)]; rfl
   generalize hn : BitVec.ofNat 64 (nat8 s.data.toList k) = n at st sk
   have Hn := Veil.mk hn
   have St := Veil.mk st
   have Sk := Veil.mk sk
   have Ek := Veil.mk ek
   clear hn st sk ek
   by_cases hl : k < s.size
   ·go_wp2
    go_round
    case rel => exact ⟨k + 1, by omega, by go_num, by rw [← St.out, Ek.out hl]⟩
    case measure => simp [intOf]; omega
   ·go_wp2
    go_round
    case rel => exact ⟨k + 1, by omega, by go_num, by rw [← Sk.out (by simp; omega)]⟩
    case measure => simp [intOf]; omega
  ·obtain rfl : k = 8 := by omega
   have e := num_end s.data.toList
   generalize hn : BitVec.ofNat 64 (nat8 s.data.toList 8) = n at e ⊢
   clear hn
   have E := Veil.mk e; clear e
   go_wp2
   go_ret
   exact ⟨ret_int E.out, rfl⟩
@[go_sem] theorem index_w8 {P : Program} (w : World) (t : TypeId) (s : ByteArray) (b : UInt8) (h : P.underlying t = some .string) :
  (Instr.index t (.string s) (w8 b)).run P w = if hi : b.toNat < s.size then .ok (w8 (s[b.toNat]'hi)) w else (boundsPanic .u8 b.toNat s.size .index).run P w := by
 show (Instr.index t (.string s) (.int .u8 _)).run P w = _
 rw [run_index_string w t s .u8 _ h]
 by_cases hi : b.toNat < s.size
 ·rw [dif_pos hi, dif_pos ⟨by omega, by omega⟩]; rfl
 ·rw [dif_neg hi, dif_neg (by omega)]
end Go.Proofs.YtaphpbiaoofmkaaGreatDoor
end
section
namespace Go.Proofs.YtaphpbiaoofmkaaGreatDoor
open Go
section
variable {P : Program} {t : TypeId}
theorem quo32 (a b : BitVec 32) (h : b.toNat ≠ 0) : binOp .quo t (w32 a) (w32 b) = pure (w32 (a / b)) := by
 show binOp .quo t (.int .u32 _) (.int .u32 _) = _
 rw [binOp_quo]
 have ha := a.isLt
 have hz' : ¬ (b.toNat : Int) = 0 := by omega
 unfold w32
 rw [BitVec.toNat_udiv]
 have hd : a.toNat / b.toNat < 4294967296 := Nat.lt_of_le_of_lt (Nat.div_le_self _ _) ha
 simp only [Op.intDiv, if_neg hz', IntKind.wrap_u32']
 congr 2
 rw [← Int.ofNat_tdiv]
 generalize a.toNat / b.toNat = q at hd ⊢
 omega
theorem rem32 (a b : BitVec 32) (h : b.toNat ≠ 0) : binOp .rem t (w32 a) (w32 b) = pure (w32 (a % b)) := by
 show binOp .rem t (.int .u32 _) (.int .u32 _) = _
 rw [binOp_rem]
 have hz' : ¬ (b.toNat : Int) = 0 := by omega
 unfold w32
 rw [BitVec.toNat_umod]
 simp only [Op.intDiv, if_neg hz']
 congr 2
@[go_sem] theorem quo32r (a : BitVec 32) (n : Nat) (h : n < 4294967296) (h0 : 0 < n) : binOp .quo t (w32 a) (.int .u32 (no_index (OfNat.ofNat n))) = pure (w32 (a / (BitVec.ofNat 32 n))) := by
 rw [lit32 n h, quo32]; rw [BitVec.toNat_ofNat, Nat.mod_eq_of_lt h]; omega
@[go_sem] theorem rem32r (a : BitVec 32) (n : Nat) (h : n < 4294967296) (h0 : 0 < n) : binOp .rem t (w32 a) (.int .u32 (no_index (OfNat.ofNat n))) = pure (w32 (a % (BitVec.ofNat 32 n))) := by
 rw [lit32 n h, rem32]; rw [BitVec.toNat_ofNat, Nat.mod_eq_of_lt h]; omega
end
namespace Sm
theorem rot_back (x : BitVec 32) (n : Int) (h0 : 0 < n) (h : n < 32) : (x >>> n.toNat ||| x <<< (32 - n).toNat) = rot x n.toNat := by
 rw [rot, BitVec.or_comm, show (32 - n).toNat = 32 - n.toNat from by omega]
theorem num_last (l : List UInt8) : 32 * (nat8 l 7 : Int) + ((l.getD 7 0).toNat : Int) / 8 = (num l : Int) := by
 have h : nat8 l 8 = 256 * nat8 l 7 + (l.getD 7 0).toNat := rfl
 unfold num
 rw [h]
 generalize nat8 l 7 = n
 generalize (l.getD 7 0).toNat = b
 omega
theorem word4_nat (a b c d : Nat) (ha : a < 256) (hb : b < 256) (hc : c < 256) (hd : d < 256) :
  (((a * 2 ^ 24 % 2 ^ 32 ||| b * 2 ^ 16 % 2 ^ 32) ||| c * 2 ^ 8 % 2 ^ 32) ||| d) = a * 16777216 + b * 65536 + c * 256 + d := by
 rw [Nat.mod_eq_of_lt (show a * 2 ^ 24 < 2 ^ 32 from by omega), Nat.mod_eq_of_lt (show b * 2 ^ 16 < 2 ^ 32 from by omega), Nat.mod_eq_of_lt (show c * 2 ^ 8 < 2 ^ 32 from by omega)]
 rw [nat_join 24 (a * 2 ^ 24) (b * 2 ^ 16) (by omega) (by omega), nat_join 16 (a * 2 ^ 24 + b * 2 ^ 16) (c * 2 ^ 8) (by omega) (by omega), nat_join 8 (a * 2 ^ 24 + b * 2 ^ 16 + c * 2 ^ 8) d (by omega) (by omega)]
theorem mul_toNat (x : BitVec 32) (n : Nat) (hx : x.toNat < 256) (hn : n ≤ 16777216) : (x * BitVec.ofNat 32 n).toNat = x.toNat * n := by
 rw [BitVec.toNat_mul, BitVec.toNat_ofNat, Nat.mod_eq_of_lt (show n < 2 ^ 32 from by omega)]
 have h : x.toNat * n ≤ 255 * 16777216 := Nat.mul_le_mul (by omega) hn
 exact Nat.mod_eq_of_lt (by omega)
theorem add_toNat (x y : BitVec 32) (h : x.toNat + y.toNat < 4294967296) : (x + y).toNat = x.toNat + y.toNat := by
 rw [BitVec.toNat_add]
 exact Nat.mod_eq_of_lt (by omega)
theorem word4_sum (a b c d : UInt8) : bw a * 16777216#32 + bw b * 65536#32 + bw c * 256#32 + bw d = word4 a b c d := by
 have q : ∀ x : UInt8, (bw x).toNat = x.toNat := fun x => by
  have := x.toNat_lt
  unfold bw
  rw [BitVec.toNat_setWidth, UInt8.toNat_toBitVec, Nat.mod_eq_of_lt (by omega)]
 have ha := a.toNat_lt
 have hb := b.toNat_lt
 have hc := c.toNat_lt
 have hd := d.toNat_lt
 apply BitVec.eq_of_toNat_eq
 have m1 := mul_toNat (bw a) 16777216 (by rw [q]; exact ha) (by omega)
 have m2 := mul_toNat (bw b) 65536 (by rw [q]; exact hb) (by omega)
 have m3 := mul_toNat (bw c) 256 (by rw [q]; exact hc) (by omega)
 rw [q] at m1 m2 m3
 have s1 := add_toNat (bw a * 16777216#32) (bw b * 65536#32) (by rw [m1, m2]; omega)
 have s2 := add_toNat (bw a * 16777216#32 + bw b * 65536#32) (bw c * 256#32) (by rw [s1, m1, m2, m3]; omega)
 have s3 := add_toNat (bw a * 16777216#32 + bw b * 65536#32 + bw c * 256#32) (bw d) (by rw [s2, s1, m1, m2, m3, q]; omega)
 rw [s3, s2, s1, m1, m2, m3, q]
 unfold word4
 rw [BitVec.toNat_or, BitVec.toNat_or, BitVec.toNat_or, BitVec.toNat_shiftLeft, BitVec.toNat_shiftLeft, BitVec.toNat_shiftLeft, Nat.shiftLeft_eq, Nat.shiftLeft_eq, Nat.shiftLeft_eq, q, q, q, q]
 exact (word4_nat _ _ _ _ ha hb hc hd).symm
def padded (l : List UInt8) : List UInt8 := ending l l.length
theorem absorb_add (l : List UInt8) (st : S8) (n m : Nat) : absorb l st (n + m) = absorb (l.drop (64 * n)) (absorb l st n) m := by
 induction m with
 | zero => rfl
 | succ m ih => rw [← Nat.add_assoc, absorb, absorb, ih, List.drop_drop, show 64 * n + 64 * m = 64 * (n + m) from by omega]
theorem absorb_prefix (l r : List UInt8) (st : S8) (n : Nat) (h : 64 * n ≤ l.length) : absorb (l ++ r) st n = absorb l st n := by
 induction n with
 | zero => rfl
 | succ n ih =>
  rw [absorb, absorb, ih (by omega), List.drop_append_of_le_length (by omega), List.take_append_of_le_length (by rw [List.length_drop]; omega)]
theorem padded_split (l : List UInt8) : padded l = l.take (64 * (l.length / 64)) ++ ending (l.drop (64 * (l.length / 64))) l.length := by
 unfold padded ending
 have hz : zerosN ((l.drop (64 * (l.length / 64))).length + 1) = zerosN (l.length + 1) := by
  rw [List.length_drop]
  unfold zerosN
  omega
 rw [hz]
 simp only [← List.append_assoc, List.take_append_drop]
theorem padded_state (l : List UInt8) : absorb (padded l) init8 ((padded l).length / 64) = shaState l := by
 unfold shaState
 have hl : (l.take (64 * (l.length / 64))).length = 64 * (l.length / 64) := by rw [List.length_take]; omega
 have hs := padded_split l
 have hlen : (padded l).length / 64 = l.length / 64 + (ending (l.drop (64 * (l.length / 64))) l.length).length / 64 := by
  rw [hs, List.length_append, hl]
  omega
 rw [hlen, absorb_add]
 have e1 : (padded l).drop (64 * (l.length / 64)) = ending (l.drop (64 * (l.length / 64))) l.length := by
  rw [hs]
  exact List.drop_left' hl
 have e2 : absorb (padded l) init8 (l.length / 64) = absorb l init8 (l.length / 64) := by
  rw [hs, absorb_prefix _ _ _ _ (by omega)]
  have e := absorb_prefix (l.take (64 * (l.length / 64))) (l.drop (64 * (l.length / 64))) init8 (l.length / 64) (by rw [hl]; exact Nat.le_refl _)
  rw [List.take_append_drop] at e
  exact e.symm
 rw [e1, e2]
def outR (st : S8) (k : Nat) : List UInt8 := (List.range k).map fun i => wb (st.list.getD (i / 4) 0 >>> (24 - 8 * (i % 4)))
theorem outR_snoc (st : S8) (k : Nat) : outR st (k + 1) = outR st k ++ [wb (st.list.getD (k / 4) 0 >>> (24 - 8 * (k % 4)))] := by simp [outR, List.range_succ]
theorem outR_length (st : S8) (k : Nat) : (outR st k).length = k := by simp [outR]
theorem outR_all (st : S8) : outR st 32 = st.list.flatMap be4 := by
 obtain ⟨a, b, c, d, e, f, g, h⟩ := st
 have z : ∀ x : BitVec 32, x >>> 0 = x := fun x => by simp
 show [wb (a >>> 24), wb (a >>> 16), wb (a >>> 8), wb (a >>> 0), wb (b >>> 24), wb (b >>> 16), wb (b >>> 8), wb (b >>> 0), wb (c >>> 24), wb (c >>> 16), wb (c >>> 8), wb (c >>> 0), wb (d >>> 24), wb (d >>> 16), wb (d >>> 8), wb (d >>> 0), wb (e >>> 24), wb (e >>> 16), wb (e >>> 8), wb (e >>> 0), wb (f >>> 24), wb (f >>> 16), wb (f >>> 8), wb (f >>> 0), wb (g >>> 24), wb (g >>> 16), wb (g >>> 8), wb (g >>> 0), wb (h >>> 24), wb (h >>> 16), wb (h >>> 8), wb (h >>> 0)] = _
 simp only [z]
 rfl
end Sm
end Go.Proofs.YtaphpbiaoofmkaaGreatDoor
namespace Go.Proofs.YtaphpbiaoofmkaaGreatDoor.Sm
def addTo (r s : List (BitVec 32)) : Nat → List (BitVec 32)
 | 0 => r
 | k + 1 => (addTo r s k).set k ((addTo r s k).getD k 0 + s.getD k 0)
theorem addTo_length (r s : List (BitVec 32)) (k : Nat) : (addTo r s k).length = r.length := by
 induction k with
 | zero => rfl
 | succ k ih => rw [addTo, List.length_set, ih]
theorem addTo_all (r s : S8) : (addTo r.list s.list 8).map w32 = (s.add r).cells := by
 obtain ⟨a, b, c, d, e, f, g, h⟩ := r
 obtain ⟨a', b', c', d', e', f', g', h'⟩ := s
 show [w32 (a + a'), w32 (b + b'), w32 (c + c'), w32 (d + d'), w32 (e + e'), w32 (f + f'), w32 (g + g'), w32 (h + h')] = [w32 (a' + a), w32 (b' + b), w32 (c' + c), w32 (d' + d), w32 (e' + e), w32 (f' + f), w32 (g' + g), w32 (h' + h)]
 rw [BitVec.add_comm a, BitVec.add_comm b, BitVec.add_comm c, BitVec.add_comm d, BitVec.add_comm e, BitVec.add_comm f, BitVec.add_comm g, BitVec.add_comm h]
theorem cells_list (s : S8) : s.cells = s.list.map w32 := rfl
theorem list_length (s : S8) : s.list.length = 8 := rfl
theorem tabK_length : tabK.length = 64 := rfl
end Go.Proofs.YtaphpbiaoofmkaaGreatDoor.Sm
end
section
namespace Go.Proofs.YtaphpbiaoofmkaaGreatDoor
open Go.RowKit Sm
theorem rturn_any (x : BitVec 32) (n : Int) (w : World) (h0 : 0 < n) (h : n < 32) :
  Calls Tryz.prog 285 #[w32 x, .int .i64 n] w fun e w' => e = .returned (w32 (rot x n.toNat)) ∧ ∃ m, w' = w.drewN m := by
 have e := rot_back x n h0 h
 have E := Veil.mk e; clear e
 have q0 : 0 ≤ n := by omega
 have q1 : 0 ≤ 32 - n := by omega
 have q2 : n ≤ 32 := by omega
 go_enter Tryz.func285, Tryz.ntmps285
 go_wp2
 go_quiet (fail)
 go_wp2
 go_ret
 rw [← E.out]
 exact ⟨rfl, _, rfl⟩
theorem rnum_any (s : ByteArray) (w : World) (hs : s.size ≤ 9223372036854775807) :
  Calls Tryz.prog 297 #[.string s] w fun e w' => e = .returned (.int .i64 (num s.data.toList)) ∧ w = w' := by
 go_enter Tryz.func297, Tryz.ntmps297
 go_wp2
 go_loop [3, 4, 5] (fun r i _ => ∃ k : Nat, k ≤ 8 ∧ i = .int .i64 k ∧ r = .int .i64 (if k ≤ 7 then (nat8 s.data.toList k : Int) else (num s.data.toList : Int))) (fun _ i _ => 8 - (intOf i).toNat)
 case atStart => exact ⟨0, by omega, rfl, rfl⟩
 case round =>
  obtain ⟨k, hk, rfl, rfl⟩ := hrel
  by_cases hlt : k < 8
  ·have h7 : k ≤ 7 := by omega
   rw [if_pos h7]
   have hn := nat8_lt s.data.toList k
   have hp : 256 ^ k ≤ 256 ^ 7 := Nat.pow_le_pow_right (by omega) h7
   have hnb : nat8 s.data.toList k < 72057594037927936 := by omega
   clear hn hp
   obtain ⟨b, hb⟩ : ∃ b : Nat, b = (s.data.toList.getD k 0).toNat := ⟨_, rfl⟩
   have hb8 : b < 256 := by have := (s.data.toList.getD k 0).toNat_lt; omega
   have st : k < 7 → ((nat8 s.data.toList (k + 1) : Nat) : Int) = 256 * (nat8 s.data.toList k : Int) + (b : Int) := by
    intro _; rw [nat8, hb]; omega
   have hsm : k < 7 → nat8 s.data.toList k < 281474976710656 := by
    intro h
    have h1 := nat8_lt s.data.toList k
    have h2 : 256 ^ k ≤ 256 ^ 6 := Nat.pow_le_pow_right (by omega) (by omega)
    omega
   have sl : k = 7 → (num s.data.toList : Int) = 32 * (nat8 s.data.toList k : Int) + (b : Int) / 8 := by
    intro h; subst h; rw [hb]; exact (num_last _).symm
   have ek : ∀ (h : k < s.size), ((s[k]).toNat : Int) = (b : Int) := by
    intro h
    rw [hb, List.getD_eq_getElem?_getD, List.getElem?_eq_getElem (by simpa using h)]; rfl
   have e0 : ¬ k < s.size → (b : Int) = 0 := by
    intro h
    rw [hb, List.getD_eq_getElem?_getD, List.getElem?_eq_none (by simp; omega)]; rfl
   clear hb
   generalize hn : nat8 s.data.toList k = n at st sl hnb hsm ⊢
   have Hn := Veil.mk hn
   have St := Veil.mk st
   have Sl := Veil.mk sl
   have Ek := Veil.mk ek
   have E0 := Veil.mk e0
   have Hsm := Veil.mk hsm
   clear hn st sl ek e0 hsm
   by_cases hl : k < s.size
   ·have ek := Ek.out hl
    by_cases hk7 : k < 7
    ·have hsm := Hsm.out hk7
     go_wp2
     go_round
     case rel => exact ⟨k + 1, by omega, by go_num, val_int (by rw [if_pos (by omega), St.out hk7])⟩
     case measure => simp [intOf]; omega
    ·go_wp2
     go_round
     case rel => exact ⟨k + 1, by omega, by go_num, val_int (by rw [if_neg (by omega), Sl.out (by omega)])⟩
     case measure => simp [intOf]; omega
   ·by_cases hk7 : k < 7
    ·have hsm := Hsm.out hk7
     go_wp2
     go_round
     case rel => exact ⟨k + 1, by omega, by go_num, val_int (by rw [if_pos (by omega), St.out hk7, E0.out hl, Int.add_zero])⟩
     case measure => simp [intOf]; omega
    ·go_wp2
     go_round
     case rel => exact ⟨k + 1, by omega, by go_num, val_int (by rw [if_neg (by omega), Sl.out (by omega), E0.out hl]; rfl)⟩
     case measure => simp [intOf]; omega
  ·obtain rfl : k = 8 := by omega
   rw [if_neg (by omega)]
   go_wp2
   go_ret
   exact ⟨rfl, rfl⟩
theorem elem32 : ElemOk Tryz.prog 204 198 1 4 := ElemOk.mk' (z := .int .u32 0) Tryz.underlying204 (by kernel_rfl) rfl (by decide)
set_option maxRecDepth 100000 in
set_option maxHeartbeats 4000000 in
theorem rwords_any (g o c : Nat) (l : List UInt8) (w : World) (hcell : ∀ j, j < 64 → w.cell? ⟨g, o + j, none⟩ = some (w8 (l.getD j 0))) (hl : l.length = 64) (_hc : 64 ≤ c) (hB : g < w.heap.size) :
  Calls Tryz.prog 283 #[.slice (some ⟨g, o, none⟩) 64 c] w fun e w' => ∃ v', e = .returned v' ∧ Own w' w.heap.size 198 1 v' ((sched l).map w32) ∧ Below w.heap.size w w' := by
 have Hcell := Veil.mk hcell; clear hcell
 have Hl := Veil.mk hl; clear hl
 go_enter Tryz.func283, Tryz.ntmps283
 go_wp2
 go_loopw [3, 4] (fun v i wr => ∃ k : Nat, k ≤ 16 ∧ i = .int .i64 k ∧ Own wr w.heap.size 198 1 v ((firstW l k).map w32) ∧ Below w.heap.size w wr) (fun _ i _ => 16 - (intOf i).toNat)
 case atStart => exact ⟨0, by omega, rfl, Own.nil _ _ _ _, Below.refl _ _⟩
 case round =>
  obtain ⟨k, hk, rfl, hown, hb⟩ := hrel
  have hle := hb.size
  by_cases hlt : k < 16
  ·have rd : ∀ j, j < 64 → wr.cell? ⟨g, o + j, none⟩ = some (w8 (l.getD j 0)) := fun j hj => (hb.cell hB).trans (Hcell.out j hj)
   have c0 := rd (4 * k) (by omega)
   have c1 := rd (4 * k + 1) (by omega)
   have c2 := rd (4 * k + 2) (by omega)
   have c3 := rd (4 * k + 3) (by omega)
   clear rd
   have hw : word4 (l.getD (4 * k) 0) (l.getD (4 * k + 1) 0) (l.getD (4 * k + 2) 0) (l.getD (4 * k + 3) 0) = wordAt l k := rfl
   have Hw := Veil.mk hw; clear hw
   generalize l.getD (4 * k) 0 = b0 at c0 Hw
   generalize l.getD (4 * k + 1) 0 = b1 at c1 Hw
   generalize l.getD (4 * k + 2) 0 = b2 at c2 Hw
   generalize l.getD (4 * k + 3) 0 = b3 at c3 Hw
   have c2' : wr.cell? ⟨g, o + (4 * k + 1 + 1), none⟩ = some (w8 b2) := c2
   have c3' : wr.cell? ⟨g, o + (4 * k + 2 + 1), none⟩ = some (w8 b3) := c3
   clear c2 c3
   have hC : ∀ {W : World}, Below w.heap.size w W → W.cell? ⟨g, o + 4 * k, none⟩ = some (w8 b0) ∧ W.cell? ⟨g, o + (4 * k + 1), none⟩ = some (w8 b1) ∧ W.cell? ⟨g, o + (4 * k + 1 + 1), none⟩ = some (w8 b2) ∧ W.cell? ⟨g, o + (4 * k + 2 + 1), none⟩ = some (w8 b3) := fun hB' =>
    ⟨(hB'.cell hB).trans ((hb.cell hB).symm.trans c0), (hB'.cell hB).trans ((hb.cell hB).symm.trans c1), (hB'.cell hB).trans ((hb.cell hB).symm.trans c2'), (hB'.cell hB).trans ((hb.cell hB).symm.trans c3')⟩
   have HC := Veil.mk @hC; clear hC
   have hsum := word4_sum b0 b1 b2 b3
   have Hsum := Veil.mk (hsum.trans Hw.out); clear hsum Hw
   have i0 : (4 : Int) * (k : Int) < 64 := by omega
   have i1 : (4 : Int) * (k : Int) + 1 < 64 := by omega
   have i2 : (4 : Int) * (k : Int) + 2 < 64 := by omega
   have i3 : (4 : Int) * (k : Int) + 3 < 64 := by omega
   have w0 : IntKind.i64.wrap (4 * (k : Int)) = 4 * (k : Int) := by rw [IntKind.wrap_i64]; omega
   have w1 : IntKind.i64.wrap (4 * (k : Int) + 1) = 4 * (k : Int) + 1 := by rw [IntKind.wrap_i64]; omega
   have w2 : IntKind.i64.wrap (4 * (k : Int) + 2) = 4 * (k : Int) + 2 := by rw [IntKind.wrap_i64]; omega
   have w3 : IntKind.i64.wrap (4 * (k : Int) + 3) = 4 * (k : Int) + 3 := by rw [IntKind.wrap_i64]; omega
   have t0 : (4 * (k : Int)).toNat = 4 * k := by omega
   have t1 : (4 * (k : Int) + 1).toNat = 4 * k + 1 := by omega
   have t2 : (4 * (k : Int) + 2).toNat = 4 * k + 2 := by omega
   have t3 : (4 * (k : Int) + 3).toNat = 4 * k + 3 := by omega
   have p0 : 0 ≤ 4 * (k : Int) := by omega
   have p1 : 0 ≤ 4 * (k : Int) + 1 := by omega
   have p2 : 0 ≤ 4 * (k : Int) + 2 := by omega
   have p3 : 0 ≤ 4 * (k : Int) + 3 := by omega
   have hl1 : (((firstW l k).map w32).length + [w32 (bw b0 * 16777216#32 + bw b1 * 65536#32 + bw b2 * 256#32 + bw b3)].length) * 4 ≤ 140737488355328 := by
    rw [List.length_map, firstW_length]; simp only [List.length_singleton]; omega
   have hl2 : ((firstW l k).map w32).length + [w32 (bw b0 * 16777216#32 + bw b1 * 65536#32 + bw b2 * 256#32 + bw b3)].length ≤ 140737488355328 := by
    rw [List.length_map, firstW_length]; simp only [List.length_singleton]; omega
   have HL1 := Veil.mk hl1
   have HL2 := Veil.mk hl2
   clear hl1 hl2
   go_wp2
   have Hb := Veil.mk hb; have Hown := Veil.mk hown; have HlE := Veil.mk hle; clear hb hown hle
   go_region_held3 (fun W => W.cell? ⟨g, o + 4 * k, none⟩ = some (w8 b0) ∧ W.cell? ⟨g, o + (4 * k + 1), none⟩ = some (w8 b1) ∧ W.cell? ⟨g, o + (4 * k + 1 + 1), none⟩ = some (w8 b2) ∧ W.cell? ⟨g, o + (4 * k + 2 + 1), none⟩ = some (w8 b3)) (first | go_keep | exact HC.out hb') (first | (refine step_ap_lit wr.drew rfl (.tmp 14) (.tmp 48) _ rfl elem32 [w32 (bw b0 * 16777216#32 + bw b1 * 65536#32 + bw b2 * 256#32 + bw b3)] Hown.out.drew rfl rfl (one1 rfl) HL1.out HL2.out HlE.out ?_; intro v' w' own' gr'; have hb' := belowOwn Hb.out.drew gr' Hown.out.drew (Nat.le_refl _) HlE.out))
   all_goals
    have hb := Hb.out
    have hown := Hown.out
    have hle := HlE.out
    have own2 : Own w' w.heap.size 198 1 v' ((firstW l (k + 1)).map w32) := by
     rw [firstW_snoc, List.map_append, ← Hsum.out]; exact own'
    clear own' gr'
    go_wp2
    go_roundw
    case rel => exact ⟨k + 1, by omega, by go_num, own2, hb'⟩
    case measure => simp [intOf]; omega
  ·have hk16 : 16 ≤ k := by omega
   have hown := Veil.mk (show Own wr w.heap.size 198 1 _ ((schedN l (16 - 16)).map w32) by
    obtain rfl : k = 16 := by omega
    exact hown)
   clear hlt
   go_wp2
   go_loopw [3, 5, 6, 7, 8, 9] (fun v i _ _ _ _ wr => ∃ m : Nat, 16 ≤ m ∧ m ≤ 64 ∧ i = .int .i64 m ∧ Own wr w.heap.size 198 1 v ((schedN l (m - 16)).map w32) ∧ Below w.heap.size w wr) (fun _ i _ _ _ _ _ => 64 - (intOf i).toNat)
   case atStart => exact ⟨16, by omega, by omega, rfl, hown.out, hb⟩
   case round =>
    clear hown hb hle
    obtain ⟨m, hm0, hm, rfl, hown, hb⟩ := hrel
    have hle := hb.size
    by_cases hlt : m < 64
    ·have hlen := schedN_length l (m - 16)
     obtain ⟨gw, cw, rfl, hcw, hbw, hgw, hcellw⟩ := hown.form (by rw [List.length_map]; omega)
     rw [List.length_map, hlen, show 16 + (m - 16) = m from by omega] at hown hcw ⊢
     have rd : ∀ j, j < m → wr.cell? ⟨gw, j, none⟩ = some (w32 ((schedN l (m - 16)).getD j 0)) := fun j hj => hcellw j _ (by
      rw [List.getElem?_map, List.getElem?_eq_getElem (by omega), List.getD_eq_getElem?_getD, List.getElem?_eq_getElem (by omega)]; rfl)
     clear hcellw
     have c15 := rd (m - 15) (by omega)
     have c2 := rd (m - 2) (by omega)
     have c7 := rd (m - 7) (by omega)
     have c16 := rd (m - 16) (by omega)
     clear rd
     have hnx : nextW (schedN l (m - 16)) m = (schedN l (m - 16)).getD (m - 16) 0 + sig0 ((schedN l (m - 16)).getD (m - 15) 0) + (schedN l (m - 16)).getD (m - 7) 0 + sig1 ((schedN l (m - 16)).getD (m - 2) 0) := rfl
     generalize (schedN l (m - 16)).getD (m - 16) 0 = x16 at c16 hnx
     generalize (schedN l (m - 16)).getD (m - 15) 0 = x15 at c15 hnx
     generalize (schedN l (m - 16)).getD (m - 7) 0 = x7 at c7 hnx
     generalize (schedN l (m - 16)).getD (m - 2) 0 = x2 at c2 hnx
     have Hnx := Veil.mk hnx; clear hnx
     have Hlen := Veil.mk hlen; clear hlen
     have Hown := Veil.mk hown; have Hb := Veil.mk hb; clear hown hb
     have b1 : 16 ≤ (m : Int) := by omega
     have b2 : (m : Int) < 64 := by omega
     go_wp2_with (go_at_call 285; refine (rturn_any _ _ _ (by omega) (by omega)).mono ?_; rintro e w' ⟨rfl, mm, rfl⟩)
     generalize hwz : World.drewN wr _ = wz
     have c16 : wz.cell? ⟨gw, m - 16, none⟩ = some (w32 x16) := by rw [← hwz]; exact c16
     have c7 : wz.cell? ⟨gw, m - 7, none⟩ = some (w32 x7) := by rw [← hwz]; exact c7
     have Hown2 := Veil.mk (show Own wz w.heap.size 198 1 (.slice (some ⟨gw, 0, none⟩) m cw) ((schedN l (m - 16)).map w32) by rw [← hwz]; exact Hown.out.drewN _)
     have Hb2 := Veil.mk (show Below w.heap.size w wz by rw [← hwz]; exact belowDrewN Hb.out _)
     have hle2 := Hb2.out.size
     clear hwz c15 c2
     have w16 : IntKind.i64.wrap ((m : Int) - 16) = (m : Int) - 16 := by rw [IntKind.wrap_i64]; omega
     have w7 : IntKind.i64.wrap ((m : Int) - 7) = (m : Int) - 7 := by rw [IntKind.wrap_i64]; omega
     have t16 : ((m : Int) - 16).toNat = m - 16 := by omega
     have t7 : ((m : Int) - 7).toNat = m - 7 := by omega
     have p16 : 0 ≤ (m : Int) - 16 := by omega
     have p7 : 0 ≤ (m : Int) - 7 := by omega
     have b7 : 7 ≤ (m : Int) := by omega
     have i16 : (m : Int) - 16 < m := by omega
     have i7 : (m : Int) - 7 < m := by omega
     generalize hX : x16 + (rot x15 7 ^^^ rot x15 18 ^^^ x15 >>> 3) + x7 + (rot x2 17 ^^^ rot x2 19 ^^^ x2 >>> 10) = X
     have HX : Veil (X = nextW (schedN l (m - 16)) m) := ⟨by rw [← hX, Hnx.out]; rfl⟩
     have hl1 : (((schedN l (m - 16)).map w32).length + [w32 X].length) * 4 ≤ 140737488355328 := by
      rw [List.length_map, Hlen.out]; simp only [List.length_singleton]; omega
     have hl2 : ((schedN l (m - 16)).map w32).length + [w32 X].length ≤ 140737488355328 := by
      rw [List.length_map, Hlen.out]; simp only [List.length_singleton]; omega
     have HL1 := Veil.mk hl1
     have HL2 := Veil.mk hl2
     clear hl1 hl2 Hb Hown
     go_region_law (refine step_ap_lit wz.drew rfl (.tmp 80) (.tmp 96) _ rfl elem32 [w32 X] Hown2.out.drew rfl rfl (one1 rfl) HL1.out HL2.out hle2 ?_; intro v' w' own' gr')
     all_goals
      have own2 : Own w' w.heap.size 198 1 v' ((schedN l (m + 1 - 16)).map w32) := by
       rw [show m + 1 - 16 = m - 16 + 1 from by omega, schedN, show 16 + (m - 16) = m from by omega, List.map_append, ← HX.out]; exact own'
      have hb' := belowOwn Hb2.out.drew gr' Hown2.out.drew (Nat.le_refl _) hle2
      clear own' gr' w16 w7 t16 t7 p16 p7 i16 i7
      go_wp2
      go_roundw
      case rel => exact ⟨m + 1, by omega, by omega, by go_num, own2, hb'⟩
      case measure => simp [intOf]; omega
    ·have hm64 : m = 64 := by omega
     subst hm64
     have hown : Own wr w.heap.size 198 1 _ ((sched l).map w32) := hown
     go_wp2
     go_ret
     exact ⟨_, rfl, hown, hb⟩
theorem quiet_more {P : Program} {f : FuncId} {args : Array Value} {w : World} {j n : Nat} {v : Value}
  (h : Calls P f args (w.drewN (j + n)) fun e w' => e = .returned v ∧ ∃ m, w' = (w.drewN (j + n)).drewN m) : Calls P f args (w.drewN (j + n)) fun e w'' => e = .returned v ∧ ∃ m, w'' = w.drewN (j + m) :=
 h.mono fun _ _ ⟨he, m, hm⟩ => ⟨he, n + m, by rw [hm, World.drewN_drewN, Nat.add_assoc]⟩
theorem tabK_cells : (tabK.map w32).toArray = #[.int .u32 1116352408, .int .u32 1899447441, .int .u32 3049323471, .int .u32 3921009573, .int .u32 961987163, .int .u32 1508970993, .int .u32 2453635748, .int .u32 2870763221, .int .u32 3624381080, .int .u32 310598401, .int .u32 607225278, .int .u32 1426881987, .int .u32 1925078388, .int .u32 2162078206, .int .u32 2614888103, .int .u32 3248222580, .int .u32 3835390401, .int .u32 4022224774, .int .u32 264347078, .int .u32 604807628, .int .u32 770255983, .int .u32 1249150122, .int .u32 1555081692, .int .u32 1996064986, .int .u32 2554220882, .int .u32 2821834349, .int .u32 2952996808, .int .u32 3210313671, .int .u32 3336571891, .int .u32 3584528711, .int .u32 113926993, .int .u32 338241895, .int .u32 666307205, .int .u32 773529912, .int .u32 1294757372, .int .u32 1396182291, .int .u32 1695183700, .int .u32 1986661051, .int .u32 2177026350, .int .u32 2456956037, .int .u32 2730485921, .int .u32 2820302411, .int .u32 3259730800, .int .u32 3345764771, .int .u32 3516065817, .int .u32 3600352804, .int .u32 4094571909, .int .u32 275423344, .int .u32 430227734, .int .u32 506948616, .int .u32 659060556, .int .u32 883997877, .int .u32 958139571, .int .u32 1322822218, .int .u32 1537002063, .int .u32 1747873779, .int .u32 1955562222, .int .u32 2024104815, .int .u32 2227730452, .int .u32 2361852424, .int .u32 2428436474, .int .u32 2756734187, .int .u32 3204031479, .int .u32 3329325298] := by kernel_rfl
theorem cells_of {w : World} {g : Nat} {l : List (BitVec 32)} (h : ∀ j u, (l.map w32)[j]? = some u → w.cell? ⟨g, j, none⟩ = some u) (j : Nat) (hj : j < l.length) : w.cell? ⟨g, j, none⟩ = some (w32 (l.getD j 0)) :=
 h j _ (by rw [List.getElem?_map, List.getElem?_eq_getElem hj, List.getD_eq_getElem?_getD, List.getElem?_eq_getElem hj]; rfl)
theorem radds_any (w : World) : Calls Tryz.prog 284 #[] w fun e w' => ∃ v, e = .returned v ∧ Own w' w.heap.size 198 1 v (tabK.map w32) ∧ Below w.heap.size w w' := by
 go_enter Tryz.func284, Tryz.ntmps284
 go_wp2
 go_ret
 refine ⟨_, rfl, ?_, (Below.refl _ _).alloc (Nat.le_refl _) _⟩
 have h := Own.lit (e := 198) (base := w.heap.size) (size := 1) w (tabK.map w32) 64 (Nat.le_refl _) (by unfold maxLen; omega) (by rw [List.length_map, tabK_length])
 rw [tabK_cells] at h
 exact h
theorem init8_cells : init8.cells.toArray = #[.int .u32 1779033703, .int .u32 3144134277, .int .u32 1013904242, .int .u32 2773480762, .int .u32 1359893119, .int .u32 2600822924, .int .u32 528734635, .int .u32 1541459225] := by kernel_rfl
theorem rfirsts_any (w : World) : Calls Tryz.prog 248 #[] w fun e w' => ∃ v, e = .returned v ∧ Own w' w.heap.size 198 1 v init8.cells ∧ Below w.heap.size w w' := by
 go_enter Tryz.func248, Tryz.ntmps248
 go_wp2
 go_ret
 refine ⟨_, rfl, ?_, (Below.refl _ _).alloc (Nat.le_refl _) _⟩
 have h := Own.lit (e := 198) (base := w.heap.size) (size := 1) w init8.cells 8 (Nat.le_refl _) (by unfold maxLen; omega) (by rw [cells_length])
 rw [init8_cells] at h
 exact h
set_option maxRecDepth 100000 in
set_option maxHeartbeats 4000000 in
theorem rnext_any (st : S8) (gh ch g o c : Nat) (l : List UInt8) (w : World) (hh : ∀ j, j < 8 → w.cell? ⟨gh, j, none⟩ = some (w32 (st.list.getD j 0))) (hgh : gh < w.heap.size) (hch : 8 ≤ ch)
  (hcell : ∀ j, j < 64 → w.cell? ⟨g, o + j, none⟩ = some (w8 (l.getD j 0))) (hl : l.length = 64) (hc : 64 ≤ c) (hB : g < w.heap.size) :
  Calls Tryz.prog 249 #[.slice (some ⟨gh, 0, none⟩) 8 ch, .slice (some ⟨g, o, none⟩) 64 c] w fun e w' => ∃ v', e = .returned v' ∧ Own w' w.heap.size 198 1 v' (mix8 st l).cells ∧ Below w.heap.size w w' := by
 have Hh := Veil.mk hh; clear hh
 have Hcell := Veil.mk hcell; clear hcell
 have Hl := Veil.mk hl; clear hl
 have Hr : Rd w w.heap.size 1 (.slice (some ⟨gh, 0, none⟩) 8 ch) st.cells := ⟨_, 8, ch, rfl, hch, rfl, fun _ => ⟨_, rfl, hgh, fun j u hu => by
  have hj : j < 8 := (List.getElem?_eq_some_iff.1 hu).1
  rw [Addr.add_lit, Nat.zero_add, Hh.out j hj]
  rw [cells_list, List.getElem?_map] at hu
  rw [List.getD_eq_getElem?_getD]
  obtain ⟨x, hx, rfl⟩ := Option.map_eq_some_iff.1 hu
  rw [hx]; rfl⟩⟩
 have HR := Veil.mk Hr; clear Hr
 go_enter Tryz.func249, Tryz.ntmps249
 go_wp2_with (first
  | (go_at_call 283
     refine (rwords_any g o c l _ Hcell.out Hl.out hc hB).mono ?_
     rintro e w1 ⟨vw, rfl, ownw, hb1⟩
     have hs1 := hb1.size
     have HB1 := Veil.mk hb1; clear hb1)
  | (go_at_call 284
     refine (radds_any _).mono ?_
     rintro e w2 ⟨vk, rfl, ownk, hb2⟩
     have hs2 := hb2.size
     have HB2 := Veil.mk hb2; clear hb2
     have Hownw := Veil.mk (ownw.below HB2.out (Nat.le_refl _)); clear ownw
     have Hownk := Veil.mk ownk; clear ownk
     have HB := Veil.mk (HB1.out.trans (HB2.out.mono hs1)); clear HB1 HB2
     have HR2 := Veil.mk (HR.out.below HB.out)
     have HO8 := Veil.mk (oneCell_map32 st.list)
     have H0 := Veil.mk (Own.lit (e := 198) (base := w.heap.size) (size := 1) w2 [] 0 (by omega) (by unfold maxLen; omega) rfl)
     have HR3 := Veil.mk (HR2.out.alloc (Nat.le_trans hs1 hs2) (.cells #[] 198))
     have hle2 : w.heap.size ≤ (w2.alloc (.cells #[] 198)).heap.size := by simp; omega
     clear HR HR2)
  | (at_builtin
     go_loud (refine ap_any (w2.alloc (.cells #[] 198)) rfl _ _ _ rfl elem32 H0.out rfl HR3.out rfl HO8.out ?_ ?_ hle2 ?_)
     rotate_left 2
     intro v3 w3 own3 gr3 hx3
     clear hx3
     have gr3 : w2.grownBy w3 (some w2.heap.size) := grown_of_alloc gr3
     have hs3 := gr3.size
     have HBw : Below w.heap.size w w3 := HB.out.grown gr3 (by omega) (fun k hk => by cases hk; omega)
     have own3 : Own w3 w.heap.size 198 1 v3 (st.list.map w32) := own3
     have hw3 := Hownw.out.grown gr3 (fun g hg => by have := (Hownw.out.block g hg).2; simp; omega)
     have hk3 := Hownk.out.grown gr3 (fun g hg => by have := (Hownk.out.block g hg).2; simp; omega)
     clear gr3 H0 HR3 HO8))
 rotate_left 1
 ·show (0 + 8) * 4 ≤ _; omega
 ·show 0 + 8 ≤ _; omega
 obtain ⟨gw, cw, rfl, hcw, hbw, hgw, hcellw⟩ := hw3.form (by rw [List.length_map, sched_length]; omega)
 obtain ⟨gk, ck, rfl, hck, hbk, hgk, hcellk⟩ := hk3.form (by rw [List.length_map, tabK_length]; omega)
 have CW := Veil.mk (cells_of hcellw); clear hcellw hw3 Hownw
 have CK := Veil.mk (cells_of hcellk); clear hcellk hk3 Hownk
 rw [List.length_map, sched_length] at hcw ⊢
 rw [List.length_map, tabK_length] at hck ⊢
 have HBw := Veil.mk HBw
 have HB3 := Veil.mk (Below.refl w3.heap.size w3)
 have Own3 := Veil.mk own3
 clear own3
 go_loopw [7, 8, 9, 10, 11, 12] (fun v i _ _ _ _ wr => ∃ (n : Nat) (s : S8), n ≤ 64 ∧ i = .int .i64 n ∧ Veil (Own wr w.heap.size 198 1 v (s.list.map w32)) ∧ Veil (s = rounds8 l st n) ∧ Veil (Below w3.heap.size w3 wr)) (fun _ i _ _ _ _ _ => 64 - (intOf i).toNat)
 case atStart => exact ⟨0, st, by omega, rfl, Own3, ⟨rfl⟩, HB3⟩
 case round =>
  obtain ⟨n, s, hn, rfl, Hown, Hs, HBr⟩ := hrel
  obtain ⟨gv, cv, rfl, hcv, hbv, hgv, hcellv⟩ := Hown.out.form (by rw [List.length_map, list_length]; omega)
  rw [List.length_map, list_length] at hcv ⊢
  have CV := Veil.mk (cells_of hcellv); clear hcellv
  by_cases hlt : n < 64
  ·have ck := (HBr.out.cell hgk).trans (CK.out n (by rw [tabK_length]; exact hlt))
   have cw := (HBr.out.cell hgw).trans (CW.out n (by rw [sched_length]; exact hlt))
   have hrd : rounds8 l st (n + 1) = round8 (tabK.getD n 0) ((sched l).getD n 0) s := by rw [rounds8, ← Hs.out]
   generalize tabK.getD n 0 = kn at ck hrd
   generalize (sched l).getD n 0 = xn at cw hrd
   have Hrd := Veil.mk hrd; clear hrd
   obtain ⟨sa, sb, sc, sd, se, sf, sg, sh⟩ := s
   have c0 : wr.cell? ⟨gv, 0, none⟩ = some (w32 sa) := CV.out 0 (by show 0 < 8; omega)
   have c1 : wr.cell? ⟨gv, 1, none⟩ = some (w32 sb) := CV.out 1 (by show 1 < 8; omega)
   have c2 : wr.cell? ⟨gv, 2, none⟩ = some (w32 sc) := CV.out 2 (by show 2 < 8; omega)
   have c3 : wr.cell? ⟨gv, 3, none⟩ = some (w32 sd) := CV.out 3 (by show 3 < 8; omega)
   have c4 : wr.cell? ⟨gv, 4, none⟩ = some (w32 se) := CV.out 4 (by show 4 < 8; omega)
   have c5 : wr.cell? ⟨gv, 5, none⟩ = some (w32 sf) := CV.out 5 (by show 5 < 8; omega)
   have c6 : wr.cell? ⟨gv, 6, none⟩ = some (w32 sg) := CV.out 6 (by show 6 < 8; omega)
   have c7 : wr.cell? ⟨gv, 7, none⟩ = some (w32 sh) := CV.out 7 (by show 7 < 8; omega)
   clear CV
   go_wp2
   go_quiet ((go_at_call 285; first | exact Calls.quiet_of (rturn_any _ _ _ (by omega) (by omega)) | exact quiet_more (rturn_any _ _ _ (by omega) (by omega))))
   go_wp2
   go_quiet (fail)
   go_wp2
   generalize hwq : World.drewN (World.drewN wr _) _ = wq
   have c0 : wq.cell? ⟨gv, 0, none⟩ = some (w32 sa) := by rw [← hwq]; exact c0
   have c1 : wq.cell? ⟨gv, 1, none⟩ = some (w32 sb) := by rw [← hwq]; exact c1
   have c2 : wq.cell? ⟨gv, 2, none⟩ = some (w32 sc) := by rw [← hwq]; exact c2
   have c3 : wq.cell? ⟨gv, 3, none⟩ = some (w32 sd) := by rw [← hwq]; exact c3
   have c4 : wq.cell? ⟨gv, 4, none⟩ = some (w32 se) := by rw [← hwq]; exact c4
   have c5 : wq.cell? ⟨gv, 5, none⟩ = some (w32 sf) := by rw [← hwq]; exact c5
   have c6 : wq.cell? ⟨gv, 6, none⟩ = some (w32 sg) := by rw [← hwq]; exact c6
   have c7 : wq.cell? ⟨gv, 7, none⟩ = some (w32 sh) := by rw [← hwq]; exact c7
   have HBq := Veil.mk (show Below w3.heap.size w3 wq by rw [← hwq]; exact belowDrewN (belowDrewN HBr.out _) _)
   clear hwq ck cw
   go_quiet ((go_at_call 285; first | exact Calls.quiet_of (rturn_any _ _ _ (by omega) (by omega)) | (refine quiet_more ?_; exact rturn_any _ _ _ (by omega) (by omega))))
   go_wp2
   go_quiet (fail)
   go_wp2
   generalize hwz : World.drewN (World.drewN wq _) _ = wz
   have c0 : wz.cell? ⟨gv, 0, none⟩ = some (w32 sa) := by rw [← hwz]; exact c0
   have c1 : wz.cell? ⟨gv, 1, none⟩ = some (w32 sb) := by rw [← hwz]; exact c1
   have c2 : wz.cell? ⟨gv, 2, none⟩ = some (w32 sc) := by rw [← hwz]; exact c2
   have c3 : wz.cell? ⟨gv, 3, none⟩ = some (w32 sd) := by rw [← hwz]; exact c3
   have c4 : wz.cell? ⟨gv, 4, none⟩ = some (w32 se) := by rw [← hwz]; exact c4
   have c5 : wz.cell? ⟨gv, 5, none⟩ = some (w32 sf) := by rw [← hwz]; exact c5
   have c6 : wz.cell? ⟨gv, 6, none⟩ = some (w32 sg) := by rw [← hwz]; exact c6
   have HBz := Veil.mk (show Below w3.heap.size w3 wz by rw [← hwz]; exact belowDrewN (belowDrewN HBq.out _) _)
   clear hwz HBq
   have hsz := HBz.out.size
   refine wp_region_still_tail 26 (by kernel_rfl) (by kernel_rfl) ?_
   simp only [List.take_succ_cons, List.take_zero, List.drop_succ_cons, List.drop_zero]
   repeat still_step
   refine wpStill_nil ?_
   change wpList _ _ _ _ _ wz.drew
   go_wp2
   have HBn := Veil.mk ((HBz.out.drew).alloc hsz (.cells (round8 kn xn ⟨sa, sb, sc, sd, se, sf, sg, sh⟩).cells.toArray 198))
   have HOn := Veil.mk (Own.lit (e := 198) (base := w.heap.size) (size := 1) wz.drew (round8 kn xn ⟨sa, sb, sc, sd, se, sf, sg, sh⟩).cells 8 (Nat.le_trans HBw.out.size hsz) (by unfold maxLen; omega) rfl)
   go_roundw
   case rel => exact ⟨n + 1, round8 kn xn ⟨sa, sb, sc, sd, se, sf, sg, sh⟩, by omega, by go_num, HOn, ⟨Hrd.out.symm⟩, HBn⟩
   case measure => simp [intOf]; omega
  ·have hn64 : 64 ≤ n := by omega
   have Hm : Veil (mix8 st l = st.add s) := ⟨by
    obtain rfl : n = 64 := by omega
    rw [mix8, ← Hs.out]⟩
   have HBw2 := Veil.mk (HBw.out.trans (HBr.out.mono HBw.out.size))
   clear CV hlt HBr Hs
   go_wp2
   go_loopw [13] (fun i wr => ∃ k : Nat, k ≤ 8 ∧ i = .int .i64 k ∧ Veil (Own wr w.heap.size 198 1 (.slice (some ⟨gv, 0, none⟩) 8 cv) ((addTo s.list st.list k).map w32)) ∧ Veil (Below w.heap.size w wr)) (fun i _ => 8 - (intOf i).toNat)
   case atStart => exact ⟨0, by omega, rfl, Hown, HBw2⟩
   case round =>
    clear Hown HBw2 hgv
    obtain ⟨k, hk, rfl, Hown, HB⟩ := hrel
    by_cases hlt : k < 8
    ·have hal := addTo_length s.list st.list k
     rw [list_length] at hal
     obtain ⟨gv', cv', hv', _, hbg, hgv, hcellv⟩ := Hown.out.form (by rw [List.length_map]; omega)
     obtain ⟨rfl, rfl⟩ : gv = gv' ∧ cv = cv' := by
      simp only [Value.slice.injEq, Option.some.injEq, Addr.mk.injEq] at hv'
      exact ⟨hv'.1.1, hv'.2.2⟩
     clear hv'
     have cv := cells_of hcellv k (by omega)
     have chh := (HB.out.cell hgh).trans (Hh.out k hlt)
     have hfz := Hown.out.free k (by rw [List.length_map]; omega)
     clear hcellv
     have hset : addTo s.list st.list (k + 1) = (addTo s.list st.list k).set k ((addTo s.list st.list k).getD k 0 + st.list.getD k 0) := rfl
     generalize (addTo s.list st.list k).getD k 0 = x at cv hset
     generalize st.list.getD k 0 = y at chh hset
     have Hset := Veil.mk hset; clear hset
     have Hal := Veil.mk hal; clear hal
     have k8 : (k : Int) < 8 := by omega
     go_wp2
     refine wp_region_still_tail 12 (by kernel_rfl) (by kernel_rfl) ?_
     simp only [List.take_succ_cons, List.take_zero, List.drop_succ_cons, List.drop_zero]
     repeat still_step
     refine wpStill_nil ?_
     change wpList _ _ _ _ _ wr.drew
     go_wp2
     have HOn := Veil.mk (Hown.out.drew.set k (by rw [List.length_map]; have := Hal.out; omega) (w32 (x + y)))
     have HBn := Veil.mk ((belowDrewN HB.out 1).setCell (p := ⟨gv, k, none⟩) hbg (w32 (x + y)))
     go_roundw
     case rel => exact ⟨k + 1, by omega, by go_num, ⟨by rw [Hset.out, List.map_set]; exact HOn.out⟩, HBn⟩
     case measure => simp [intOf]; omega
    ·have hk8 : 8 ≤ k := by omega
     have hfin : (addTo s.list st.list k).map w32 = (mix8 st l).cells := by
      obtain rfl : k = 8 := by omega
      rw [Hm.out, addTo_all]
     have Hf := Veil.mk hfin; clear hfin
     clear hlt
     go_wp2
     go_ret
     exact ⟨_, rfl, by rw [← Hf.out]; exact Hown.out, HB.out⟩
end Go.Proofs.YtaphpbiaoofmkaaGreatDoor
namespace Go.Proofs.YtaphpbiaoofmkaaGreatDoor
open Go.RowKit Sm
set_option maxRecDepth 100000 in
set_option maxHeartbeats 2000000 in
theorem rsha_any (s : ByteArray) (w : World) (hs : s.size ≤ 70368744177664) :
  Calls Tryz.prog 146 #[.string s] w fun e w' => e = .returned (.string ⟨(sha s.data.toList).toArray⟩) ∧ Below w.heap.size w w' := by
 have hm : s.size ≤ maxLen := by unfold maxLen; omega
 go_enter Tryz.func146, Tryz.ntmps146
 go_wp2_with (first
  | (refine bytes_arm w rfl _ _ (.tmp 10) rfl 5 s rfl Tryz.underlying9 Tryz.underlying142 Tryz.underlying5 hm (base := w.heap.size) (Nat.le_refl _) ?_; intro v0 w0 own0 gr0 hx; clear hx)
  | (at_builtin; refine ap_lit w0 rfl _ _ _ rfl elem8 [.int .u8 128] own0 rfl rfl ?_ ?_ ?_ ?_ ?_; rotate_left 4; intro v1 w1 own1 gr1))
 rotate_left 1
 ·exact one1 rfl
 ·simp; omega
 ·simp; omega
 ·exact gr0.size
 have hb1 : Below w.heap.size w w1 := belowOwn ((Below.refl _ _).grown gr0 (Nat.le_refl _) (fun k hk => by cases hk)) gr1 own0 (Nat.le_refl _) gr0.size
 have own1' : Own w1 w.heap.size 5 1 v1 ((endZ s.data.toList 0).map w8) := by
  rw [show ((endZ s.data.toList 0).map w8) = s.data.toList.map w8 ++ [.int .u8 128] from by simp [endZ]; rfl]
  exact own1
 clear own0 gr0 gr1 own1
 have hl : s.data.toList.length = s.size := by simp
 generalize hs0 : s.data.toList = l at own1' hl ⊢
 have Hl := Veil.mk hl
 have Hs0 := Veil.mk hs0
 clear hl hs0
 go_loopw [3] (fun v wr => ∃ (N z : Nat) (A : Option Addr) (c : Nat), v = .slice A N c ∧ Veil (N = l.length + 1 + z) ∧ z ≤ zerosN (l.length + 1) ∧ Own wr w.heap.size 5 1 (.slice A N c) ((endZ l z).map w8) ∧ Below w.heap.size w wr) (fun v _ => l.length + 1 + zerosN (l.length + 1) - lenOf v)
 case atStart =>
  obtain ⟨A, c, rfl⟩ := own1'.len1
  exact ⟨_, 0, A, c, rfl, ⟨by rw [List.length_map, endZ_length]⟩, Nat.zero_le _, own1', hb1⟩
 case round =>
  obtain ⟨N, z, A, c, rfl, HN, hz, hown, hb⟩ := hrel
  have hzl := zerosN_le (l.length + 1)
  have hNs : N ≤ 70368744177964 := by have := HN.out; have := Hl.out; omega
  have hmod : ((N : Int) % 64 != 56) = decide (z < zerosN (l.length + 1)) := by
   have h1 := zerosN_at (l.length + 1)
   have h2 := zerosN_before (l.length + 1) z
   rw [HN.out]
   by_cases hlt : z < zerosN (l.length + 1)
   ·have := h2 hlt
    simp only [hlt, decide_true, bne_iff_ne]
    omega
   ·obtain rfl : z = zerosN (l.length + 1) := by omega
    simp only [hlt, decide_false, bne_eq_false_iff_eq]
    omega
  have hle := hb.size
  by_cases hlt : z < zerosN (l.length + 1)
  ·have ht : ((N : Int) % 64 != 56) = true := by rw [hmod]; simpa using hlt
   clear hmod
   go_wp2_with (at_builtin; refine ap_lit wr rfl _ _ _ rfl elem8 [.int .u8 0] hown rfl rfl ?_ ?_ ?_ hle ?_; rotate_left 3; intro v' w' own' gr')
   rotate_left 1
   ·exact one1 rfl
   ·rw [List.length_map, endZ_length, ← HN.out]; simp; omega
   ·rw [List.length_map, endZ_length, ← HN.out]; simp; omega
   have hb' := belowOwn hb gr' hown (Nat.le_refl _) hle
   have own2 : Own w' w.heap.size 5 1 v' ((endZ l (z + 1)).map w8) := by rw [endZ_snoc, List.map_append]; exact own'
   clear own' gr' hown hb
   go_wp2
   go_roundw
   obtain ⟨A', c', rfl⟩ := own2.len1
   case rel => exact ⟨_, z + 1, A', c', rfl, ⟨by rw [List.length_map, endZ_length]⟩, by omega, own2, hb'⟩
   case measure =>
    obtain ⟨A', c', rfl⟩ := own2.len1
    simp only [lenOf, List.length_map, endZ_length]
    have := HN.out
    omega
  ·have ht : ((N : Int) % 64 != 56) = false := by rw [hmod]; simpa using hlt
   obtain rfl : z = zerosN (l.length + 1) := by omega
   clear hmod
   go_wp2
   generalize hX : 8#64 * BitVec.ofNat 64 s.size = X
   have HX : Veil (X = BitVec.ofInt 64 (l.length : Int) * 8#64) := ⟨by rw [← hX, Hl.out, BitVec.mul_comm, BitVec.ofInt_natCast]⟩
   clear hX
   go_loopw [3, 5] (fun v i wr => ∃ (M j : Nat) (A : Option Addr) (c : Nat), v = .slice A M c ∧ j ≤ 8 ∧ i = .int .i64 (56 - 8 * (j : Int)) ∧ Own wr w.heap.size 5 1 (.slice A M c) ((endZ l (zerosN (l.length + 1)) ++ beN X j).map w8) ∧ Below w.heap.size w wr) (fun _ i _ => (intOf i + 8).toNat)
   case atStart => exact ⟨N, 0, A, c, rfl, by omega, rfl, by simpa [beN] using hown, hb⟩
   case round =>
    clear hown hb hle
    obtain ⟨M, j, A', c', rfl, hj, rfl, hown, hb⟩ := hrel
    have hle := hb.size
    have hlen : (endZ l (zerosN (l.length + 1)) ++ beN X j).length ≤ 70368744177964 := by
     rw [List.length_append, endZ_length]
     have : (beN X j).length ≤ 8 := by simp [beN, be8]; omega
     have := Hl.out
     omega
    by_cases hlt : j < 8
    ·have hge : (0 : Int) ≤ 56 - 8 * (j : Int) := by omega
     go_wp2_with (at_builtin; refine ap_lit wr rfl _ _ _ rfl elem8 [_] hown rfl rfl ?_ ?_ ?_ hle ?_; rotate_left 3; intro v' w' own' gr')
     rotate_left 1
     ·exact one1 rfl
     ·rw [List.length_map]; simp only [List.length_singleton]; omega
     ·rw [List.length_map]; simp only [List.length_singleton]; omega
     have hb' := belowOwn hb gr' hown (Nat.le_refl _) hle
     have own2 : Own w' w.heap.size 5 1 v' ((endZ l (zerosN (l.length + 1)) ++ beN X (j + 1)).map w8) := by
      rw [beN_snoc _ _ hlt, ← List.append_assoc, List.map_append]; exact own'
     clear own' gr' hown hb
     obtain ⟨A2, c2, rfl⟩ := own2.len1
     go_wp2
     go_roundw
     case rel => exact ⟨_, j + 1, A2, c2, rfl, by omega, by go_num, own2, hb'⟩
     case measure => simp [intOf]; omega
    ·have hj8 : 8 ≤ j := by omega
     have hP : endZ l (zerosN (l.length + 1)) ++ beN X j = padded l := by
      obtain rfl : j = 8 := by omega
      rw [HX.out]
      rfl
     rw [hP] at hown hlen
     have hPl : (padded l).length % 64 = 0 := ending_blocks l l.length
     have hP0 : 0 < (padded l).length := by unfold padded; rw [ending_length]; omega
     have hst := padded_state l
     generalize padded l = P at hown hlen hPl hP0 hst
     have Hst := Veil.mk hst; clear hst hP
     obtain ⟨gp, cp, hv, hcp, hbp, hgp, hcellp⟩ := hown.form (by rw [List.length_map]; exact hP0)
     rw [hv] at hown ⊢
     clear hv
     rw [List.length_map] at hcp hown ⊢
     have HP := Veil.mk hcellp; clear hcellp
     have hneg : ¬ (0 : Int) ≤ 56 - 8 * (j : Int) := by omega
     go_wp2_with (go_at_call 248; refine (rfirsts_any _).mono ?_; rintro e w2 ⟨vh, rfl, ownh, hb2⟩)
     have hbB := Veil.mk (hb.trans (hb2.mono hle))
     have hownh := Veil.mk (ownh.less hle)
     have Hown2 := Veil.mk (hown.below hb2 (Nat.le_refl _))
     have hs2 := hb2.size
     clear hown hb ownh hb2 HP
     go_loopw [6, 7] (fun v i wr => ∃ (m gh ch : Nat), v = .slice (some ⟨gh, 0, none⟩) 8 ch ∧ 64 * m ≤ P.length ∧ i = .int .i64 (64 * (m : Int)) ∧ Veil (Own wr w.heap.size 198 1 (.slice (some ⟨gh, 0, none⟩) 8 ch) ((absorb P init8 m).list.map w32)) ∧ Veil (Own wr w.heap.size 5 1 (.slice (some ⟨gp, 0, none⟩) P.length cp) (P.map w8)) ∧ Veil (Below w.heap.size w wr)) (fun _ i _ => P.length - (intOf i).toNat)
     case atStart =>
      obtain ⟨gh, ch, hv, _⟩ := hownh.out.form (by show 0 < 8; omega)
      subst hv
      exact ⟨0, gh, ch, rfl, by omega, rfl, hownh, Hown2, hbB⟩
     case round =>
      clear hownh Hown2 hbB hle hs2 hgp hbp
      obtain ⟨m, gh, ch, rfl, hm, rfl, Hown, HownP, HB⟩ := hrel
      have hle := HB.out.size
      obtain ⟨gh', ch', hv, hch, hbh, hgh, hcellh⟩ := Hown.out.form (by rw [List.length_map, list_length]; omega)
      obtain ⟨rfl, rfl⟩ : gh = gh' ∧ ch = ch' := by
       simp only [Value.slice.injEq, Option.some.injEq, Addr.mk.injEq] at hv
       exact ⟨hv.1.1, hv.2.2⟩
      clear hv
      rw [List.length_map, list_length] at hch
      have CH := Veil.mk (cells_of hcellh); clear hcellh
      by_cases hlt : 64 * m < P.length
      ·have h64 : 64 * m + 64 ≤ P.length := by omega
       obtain ⟨gp', cp', hv, _, hbp, hgp, hcellp⟩ := HownP.out.form (by rw [List.length_map]; exact hP0)
       obtain ⟨rfl, rfl⟩ : gp = gp' ∧ cp = cp' := by
        simp only [Value.slice.injEq, Option.some.injEq, Addr.mk.injEq] at hv
        exact ⟨hv.1.1, hv.2.2⟩
       clear hv
       have CP : Veil (∀ j, j < 64 → wr.cell? ⟨gp, 64 * m + j, none⟩ = some (w8 (((P.drop (64 * m)).take 64).getD j 0))) := ⟨fun j hj => hcellp _ _ (by
        rw [List.getElem?_map, List.getElem?_eq_getElem (by omega), List.getD_eq_getElem?_getD, List.getElem?_take_of_lt hj, List.getElem?_drop, List.getElem?_eq_getElem (by omega)]; rfl)⟩
       clear hcellp
       have hbl : ((P.drop (64 * m)).take 64).length = 64 := by rw [List.length_take, List.length_drop]; omega
       have Hbl := Veil.mk hbl; clear hbl
       have hcap : 64 * m < cp := by omega
       have hcap1 : (64 : Int) * (m : Int) < cp := by omega
       have hcap2 : (64 : Int) * (m : Int) + 64 ≤ cp := by omega
       have hcap3 : ¬ (cp = 64 * m) := by omega
       have hcap4 : 64 ≤ cp - 64 * m := by omega
       go_wp2_with (go_at_call 249; go_loud (refine (rnext_any (absorb P init8 m) gh ch gp (64 * m) (cp - 64 * m) ((P.drop (64 * m)).take 64) _ CH.out hgh hch CP.out Hbl.out hcap4 hgp).mono ?_); rintro e w' ⟨v', rfl, ownv, hb'⟩)
       have hab : absorb P init8 (m + 1) = mix8 (absorb P init8 m) ((P.drop (64 * m)).take 64) := rfl
       have Hab := Veil.mk hab; clear hab
       have ownv2 : Veil (Own w' w.heap.size 198 1 v' ((absorb P init8 (m + 1)).list.map w32)) := ⟨by rw [Hab.out]; exact ownv.less hle⟩
       have HownP2 := Veil.mk (HownP.out.below hb' (Nat.le_refl _))
       have HB2 := Veil.mk (HB.out.trans (hb'.mono hle))
       clear ownv hb' Hown HownP HB CP CH
       obtain ⟨gh2, ch2, hv, _⟩ := ownv2.out.form (by rw [List.length_map, list_length]; omega)
       subst hv
       go_roundw
       case rel => exact ⟨m + 1, gh2, ch2, rfl, by omega, by go_num, ownv2, HownP2, HB2⟩
       case measure => simp [intOf]; omega
      ·have hm64 : ¬ (64 : Int) * (m : Int) < P.length := by omega
       have hfin : shaState l = absorb P init8 m := by
        rw [← Hst.out]
        congr 1
        omega
       have Hfin := Veil.mk hfin; clear hfin
       generalize absorb P init8 m = st at Hfin CH Hown
       clear HownP
       go_wp2
       go_loopw [8, 9] (fun v i wx => ∃ k : Nat, k ≤ 32 ∧ i = .int .i64 k ∧ Own wx wr.heap.size 5 1 v ((outR st k).map w8) ∧ Below wr.heap.size wr wx) (fun _ i _ => 32 - (intOf i).toNat)
       case atStart => exact ⟨0, by omega, rfl, Own.nil _ _ _ _, Below.refl _ _⟩
       case round =>
        obtain ⟨k, hk, rfl, hown, hb⟩ := hrel
        have hle := hb.size
        by_cases hlt : k < 32
        ·have ch4 := (hb.cell (p := ⟨gh, k / 4, none⟩) hgh).trans (CH.out (k / 4) (by rw [list_length]; omega))
         have hsn := outR_snoc st k
         generalize st.list.getD (k / 4) 0 = x at ch4 hsn
         have Hsn := Veil.mk hsn; clear hsn
         have q0 : 0 ≤ (k : Int) / 4 := by omega
         have q1 : (k : Int) / 4 < 8 := by omega
         have q2 : ((k : Int) / 4).toNat = k / 4 := by omega
         have q3 : 8 * ((k : Int) % 4) ≤ 24 := by omega
         have q4 : (24 - 8 * ((k : Int) % 4)).toNat = 24 - 8 * (k % 4) := by omega
         have Hlen := Veil.mk (outR_length st k)
         go_wp2_with (at_builtin; refine ap_lit wr rfl _ _ _ rfl elem8 [_] hown rfl rfl ?_ ?_ ?_ hle ?_; rotate_left 3; intro v' w' own' gr')
         rotate_left 1
         ·exact one1 rfl
         ·rw [List.length_map, Hlen.out]; simp only [List.length_singleton]; omega
         ·rw [List.length_map, Hlen.out]; simp only [List.length_singleton]; omega
         have own2 := own'
         rw [show ∀ y, (outR st k).map w8 ++ [w8 y] = ((outR st k) ++ [y]).map w8 from fun y => by rw [List.map_append]; rfl, ← Hsn.out] at own2
         have hb' := belowOwn hb gr' hown (Nat.le_refl _) hle
         clear own' gr' hown hb q0 q1 q2 q3 q4
         go_roundw
         case rel => exact ⟨k + 1, by omega, by go_num, own2, hb'⟩
         case measure => simp [intOf]; omega
        ·obtain rfl : k = 32 := by omega
         have hc := str_run (P := Tryz.prog) wr 142 9 5 Tryz.underlying142 Tryz.underlying5 Tryz.underlying9 hown.rd
         have hfin : (outR st 32) = sha l := by rw [outR_all, sha, Hfin.out]
         have Hfin2 := Veil.mk hfin; clear hfin
         have HBf := Veil.mk (HB.out.trans (hb.mono HB.out.size))
         go_wp2
         go_ret
         exact ⟨by rw [Hs0.out, ← Hfin2.out]; rfl, HBf.out⟩
end Go.Proofs.YtaphpbiaoofmkaaGreatDoor
end
section
namespace Go.Proofs.YtaphpbiaoofmkaaGreatDoor.Pe
open Go Go.RowKit Sm
instance tabs : Tab := ⟨fun b i => if b = 1 ∧ i < 64 then some (w32 (tabK.getD i 0)) else if b = 0 ∧ i < 8 then some (w32 (init8.list.getD i 0)) else none⟩
theorem Tabs.of {w : World} {g : Gh} (h : TabOk w g) : Tabs w := by
 refine ⟨fun i hi => (h 1 i _ ?_).2, fun i hi => (h 0 i _ ?_).2⟩
 ·show (if _ then _ else _) = _
  rw [if_pos ⟨rfl, hi⟩]
 ·show (if _ then _ else _) = _
  rw [if_neg (fun e => absurd e.1 (by decide)), if_pos ⟨rfl, hi⟩]
theorem sha_c (l : List UInt8) (h : l.length ≤ 70368744177664) : AC Tryz.prog 145 [.st l] [] (.st (sha l)) [] := by
 refine AC.ofBelow (by kernel_rfl) fun w g cargs ht hargs => ?_
 rw [lrel_st hargs]
 refine (sha_any ⟨l.toArray⟩ w (by simp [ByteArray.size]; omega) (Tabs.of ht)).mono ?_
 rintro r w' ⟨rfl, hb⟩
 refine ⟨_, rfl, fun g' => ?_, hb⟩
 exact .st g' _
theorem rsha_c (l : List UInt8) (h : l.length ≤ 70368744177664) : AC Tryz.prog 146 [.st l] [] (.st (sha l)) [] := by
 refine AC.ofBelow (by kernel_rfl) fun w g cargs ht hargs => ?_
 rw [lrel_st hargs]
 refine (rsha_any ⟨l.toArray⟩ w (by simp [ByteArray.size]; omega)).mono ?_
 rintro r w' ⟨rfl, hb⟩
 refine ⟨_, rfl, fun g' => ?_, hb⟩
 exact .st g' _
end Go.Proofs.YtaphpbiaoofmkaaGreatDoor.Pe
end
section
namespace Go.Proofs
open Go.Shelf
def Tryz.lays156_ren : Go.Shelf.Ren := ⟨fun | 156 => 266 | 165 => 292 | 166 => 293 | 169 => 294 | 240 => 309 | 241 => 310 | 276 => 318 | 277 => 319 | n => n, fun | 31 => 22 | 9 => 9 | 3 => 3 | 4 => 4 | 0 => 0 | 20 => 20 | 72 => 229 | 76 => 233 | 70 => 227 | 37 => 142 | 75 => 232 | 127 => 248 | 164 => 256 | 5 => 5 | 80 => 108 | n => n, fun | n => n⟩
theorem Tryz.lays156 : Go.Proofs.Lays.n156 Tryz.prog Tryz.lays156_ren := {
  mixed := by kernel_rfl
  f156 := Tryz.func266.trans (congrArg some (by kernel_rfl))
  f165 := Tryz.func292.trans (congrArg some (by kernel_rfl))
  f166 := Tryz.func293.trans (congrArg some (by kernel_rfl))
  f169 := Tryz.func294.trans (congrArg some (by kernel_rfl))
  f240 := Tryz.func309.trans (congrArg some (by kernel_rfl))
  f241 := Tryz.func310.trans (congrArg some (by kernel_rfl))
  f276 := Tryz.func318.trans (congrArg some (by kernel_rfl))
  f277 := Tryz.func319.trans (congrArg some (by kernel_rfl))
  t0 := Tryz.underlying0
  a0 := Tryz.isAgg0
  z0 := Tryz.sizeOf0
  v0 := Tryz.zeroValue0
  t3 := Tryz.underlying3
  a3 := Tryz.isAgg3
  z3 := Tryz.sizeOf3
  v3 := Tryz.zeroValue3
  t4 := Tryz.underlying4
  a4 := Tryz.isAgg4
  z4 := Tryz.sizeOf4
  v4 := Tryz.zeroValue4
  t9 := Tryz.underlying9
  a9 := Tryz.isAgg9
  z9 := Tryz.sizeOf9
  v9 := Tryz.zeroValue9
  t20 := Tryz.underlying20
  a20 := Tryz.isAgg20
  z20 := Tryz.sizeOf20
  v20 := Tryz.zeroValue20
  t31 := Tryz.underlying22
  a31 := Tryz.isAgg22
  z31 := Tryz.sizeOf22
  v31 := Tryz.zeroValue22
  t37 := Tryz.underlying142
  a37 := Tryz.isAgg142
  z37 := Tryz.sizeOf142
  v37 := Tryz.zeroValue142
  t70 := Tryz.underlying227
  a70 := Tryz.isAgg227
  z70 := Tryz.sizeOf227
  v70 := Tryz.zeroValue227
  t72 := Tryz.underlying229
  a72 := Tryz.isAgg229
  z72 := Tryz.sizeOf229
  v72 := Tryz.zeroValue229
  t75 := Tryz.underlying232
  a75 := Tryz.isAgg232
  z75 := Tryz.sizeOf232
  v75 := Tryz.zeroValue232
  t76 := Tryz.underlying233
  a76 := Tryz.isAgg233
  z76 := Tryz.sizeOf233
  v76 := Tryz.zeroValue233
  t127 := Tryz.underlying248
  a127 := Tryz.isAgg248
  z127 := Tryz.sizeOf248
  v127 := Tryz.zeroValue248
  t164 := Tryz.underlying256
  a164 := Tryz.isAgg256
  z164 := Tryz.sizeOf256
  v164 := Tryz.zeroValue256 }
theorem Tryz.Builder_Extra_156 : Builder.Extra Tryz.prog Tryz.lays156_ren := {
  sizeBuilder := by kernel_rfl
  liesBuilder := by kernel_rfl
  t5 := Tryz.underlying5
  a5 := Tryz.isAgg5
  z5 := Tryz.sizeOf5
  v5 := Tryz.zeroValue5
  infoByte := by kernel_rfl
  cellsByte := by kernel_rfl
  sizeByte := by kernel_rfl
  neB5 := by decide }
open Go.RowKit in
theorem Tryz.strings_Join (bk o c : Nat) (xs : List ByteArray) (sep : ByteArray) (w : World) (hcells : ∀ (j : Nat) x, xs[j]? = some x → w.cell? ⟨bk, o + j, none⟩ = some (.string x)) (hbk : bk < w.heap.size) (hN : xs.length ≤ 140737488355328) (hcap : xs.length ≤ c) (hlen : (Lib.join (xs.map (·.data.toList)) sep.data.toList).length ≤ 140737488355328) :
    Calls Tryz.prog 266 #[.slice (some ⟨bk, o, none⟩) xs.length c, .string sep] w fun e w' => e = .returned (.string ⟨(Lib.join (xs.map (·.data.toList)) sep.data.toList).toArray⟩) ∧ Below w.heap.size w w' := Any.strings_Join Tryz.lays156 Tryz.Builder_Extra_156 bk o c xs sep w hcells hbk hN hcap hlen
end Go.Proofs
end
