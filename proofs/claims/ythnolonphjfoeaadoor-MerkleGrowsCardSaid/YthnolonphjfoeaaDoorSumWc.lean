/- The walk of sum.mix. -/
import Derived.Test.YthnolonphjfoeaaDoorSumWb
namespace Go.Proofs.YthnolonphjfoeaaDoor
set_option linter.unusedSectionVars false
set_option linter.unusedVariables false
set_option linter.unusedSimpArgs false
open Go.RowKit Sm
/-- the two tables of the program's text, as they lie in memory -/
def Tabs (w : World) : Prop := (∀ i, i < 64 → w.cell? ⟨1, i, none⟩ = some (w32 (tabK.getD i 0))) ∧ (∀ i, i < 8 → w.cell? ⟨0, i, none⟩ = some (w32 (init8.list.getD i 0)))
theorem Tabs.keep {w w' : World} (h : Tabs w) (hk : ∀ b, b < w.heap.size → w'.heap[b]? = w.heap[b]?) : Tabs w' := by
  refine ⟨fun i hi => ?_, fun i hi => ?_⟩
  · rw [World.cell?_of_block (hk _ (World.block_lt_of_cell? w _ (h.1 i hi)))]
    exact h.1 i hi
  · rw [World.cell?_of_block (hk _ (World.block_lt_of_cell? w _ (h.2 i hi)))]
    exact h.2 i hi
theorem Tabs.below {w w' : World} (h : Tabs w) {B : Nat} (hb : Below B w w') (hB : w.heap.size ≤ B) : Tabs w' := h.keep fun b hlt => hb.block b (by omega)
theorem Tabs.drew {w : World} (h : Tabs w) : Tabs w.drew := h
theorem Tabs.alloc {w : World} (h : Tabs w) (o : Obj) : Tabs (w.alloc o) := h.keep fun b hb => heap_alloc_old w o hb
set_option maxRecDepth 100000 in
set_option maxHeartbeats 4000000 in
theorem mix_any (st : S8) (s : ByteArray) (w : World) (hs : s.size = 64) (hT : Tabs w) :
    Calls Tryd.prog 42 #[.agg st.cells.toArray, .string s] w fun e w' => e = .returned (.agg (mix8 st s.data.toList).cells.toArray) ∧ Below w.heap.size w w' := by
  have Hs := Veil.mk hs; clear hs
  have HT := Veil.mk hT; clear hT
  obtain ⟨va, vb, vc, vd, ve, vf, vg, vh⟩ := st
  simp only [S8.cells]
  go_enter Tryd.func42, Tryd.ntmps42
  go_wp2_with (first
    | (go_at_call 47; refine (sched_any s _ Hs.out).mono ?_; rintro e w1 ⟨rfl, hb1⟩)
    | (refine st_new _ rfl _ (.tmp 5) (.tmp 18) rfl rfl ((sched s.data.toList).map w32) rfl ?_ ?_ (oneCell_map32 _) ?_))
  · exact info64.trans (by rw [List.length_map, sched_length])
  · rw [List.length_map, sched_length]; rfl
  have hbs : Below w.heap.size w w1 := (((Below.refl _ _).alloc (Nat.le_refl _) _).alloc (by simp) _).trans (hb1.mono (by simp; omega))
  have hsz : w.heap.size + 2 ≤ w1.heap.size := by have := hb1.size; simp at this; omega
  have g0 : w1.heap[w.heap.size]? = some (.cells #[w32 va, w32 vb, w32 vc, w32 vd, w32 ve, w32 vf, w32 vg, w32 vh] 55 (0, 0)) :=
    (hb1.block _ (by simp; omega)).trans (heap_alloc2_old w _ _)
  have g1 : w1.heap[w.heap.size + 1]? = some (.cells #[.int .u32 0, .int .u32 0, .int .u32 0, .int .u32 0, .int .u32 0, .int .u32 0, .int .u32 0, .int .u32 0] 55 (0, 0)) :=
    (hb1.block _ (by simp)).trans (heap_alloc2_new w _ _)
  have hT1 : Tabs w1 := HT.out.below hbs (Nat.le_refl _)
  clear hb1
  have k0 : (w1.alloc (.cells ((sched s.data.toList).map w32).toArray 64)).heap[w.heap.size]? = _ := (heap_alloc_old w1 _ (by omega)).trans g0
  have k1 : (w1.alloc (.cells ((sched s.data.toList).map w32).toArray 64)).heap[w.heap.size + 1]? = _ := (heap_alloc_old w1 _ (by omega)).trans g1
  have k2 := heap_alloc_new w1 (.cells ((sched s.data.toList).map w32).toArray 64)
  have kT := hT1.alloc (.cells ((sched s.data.toList).map w32).toArray 64)
  have kb := hbs.alloc hbs.size (.cells ((sched s.data.toList).map w32).toArray 64)
  clear g0 g1 hT1 hbs
  generalize w1.alloc (.cells ((sched s.data.toList).map w32).toArray 64) = w2 at k0 k1 k2 kT kb ⊢
  generalize hW : w1.heap.size = bw at k2 hsz ⊢
  clear hW
  have x0 := cell_of_row w2 w.heap.size 0 _ _ _ k0
  have x1 := cell_of_row w2 w.heap.size 1 _ _ _ k0
  have x2 := cell_of_row w2 w.heap.size 2 _ _ _ k0
  have x3 := cell_of_row w2 w.heap.size 3 _ _ _ k0
  have x4 := cell_of_row w2 w.heap.size 4 _ _ _ k0
  have x5 := cell_of_row w2 w.heap.size 5 _ _ _ k0
  have x6 := cell_of_row w2 w.heap.size 6 _ _ _ k0
  have x7 := cell_of_row w2 w.heap.size 7 _ _ _ k0
  have K0 := Veil.mk k0
  have K1 := Veil.mk k1
  have K2 := Veil.mk k2
  have KT := Veil.mk kT
  have Kb := Veil.mk kb
  clear k0 k1 k2 kT kb
  go_wp2
  go_quiet (fail)
  go_wp2
  go_quiet (fail)
  clear x0 x1 x2 x3 x4 x5 x6 x7
  go_wp2
  go_loopw [6, 7, 8, 9, 10, 11, 12, 13, 14, 15, 16, 35] (fun a b c d e f g h _ _ _ i wr => ∃ n r : Nat, n ≤ 64 ∧ i = .int .i64 n ∧ wr = w2.drewN r ∧ ∃ st : S8, st = rounds8 s.data.toList ⟨va, vb, vc, vd, ve, vf, vg, vh⟩ n ∧ a = w32 st.a ∧ b = w32 st.b ∧ c = w32 st.c ∧ d = w32 st.d ∧ e = w32 st.e ∧ f = w32 st.f ∧ g = w32 st.g ∧ h = w32 st.h) (fun _ _ _ _ _ _ _ _ _ _ _ i _ => 64 - (intOf i).toNat)
  case atStart => exact ⟨0, _, by omega, rfl, World.drewN_drewN _ _ _, _, rfl, rfl, rfl, rfl, rfl, rfl, rfl, rfl, rfl⟩
  case round =>
    obtain ⟨n, r, hn, rfl, rfl, ⟨sa, sb, sc, sd, se, sf, sg, sh⟩, hst, rfl, rfl, rfl, rfl, rfl, rfl, rfl, rfl⟩ := hrel
    have Hst := Veil.mk hst; clear hst
    by_cases hlt : n < 64
    · have cK : (w2.drewN r).cell? ⟨1, n, none⟩ = some (w32 (tabK.getD n 0)) := KT.out.1 n hlt
      have cW : (w2.drewN r).cell? ⟨bw, n, none⟩ = some (w32 ((sched s.data.toList).getD n 0)) := by
        show w2.cell? _ = _
        rw [cell_of_row w2 bw n _ _ _ K2.out]
        simp [List.getD_eq_getElem?_getD, List.getElem?_eq_getElem (show n < (sched s.data.toList).length from by rw [sched_length]; exact hlt)]
      generalize hk : tabK.getD n 0 = kn at cK
      generalize hx : (sched s.data.toList).getD n 0 = xn at cW
      have Hk := Veil.mk hk; clear hk
      have Hx := Veil.mk hx; clear hx
      generalize hwr : w2.drewN r = wr at cK cW ⊢
      have Hwr := Veil.mk hwr; clear hwr
      go_wp2
      go_quiet ((go_at_call 48; exact Calls.quiet_of_same ((turn_any _ _ _ (by omega) (by omega)).mono fun _ _ h => ⟨h.1, h.2.symm⟩)))
      go_wp2_with (go_at_call 48; refine (turn_any _ _ _ (by omega) (by omega)).mono ?_; rintro e w' ⟨rfl, rfl⟩)
      go_roundw
      case rel =>
        refine ⟨n + 1, _, by omega, by go_num, by rw [← Hwr.out]; exact World.drewN_drewN _ _ _, round8 kn xn ⟨sa, sb, sc, sd, se, sf, sg, sh⟩, ?_, ?_⟩
        · rw [rounds8, ← Hst.out, Hk.out, Hx.out]
        · exact ⟨rfl, rfl, rfl, rfl, rfl, rfl, rfl, rfl⟩
      case measure => simp [intOf]; omega
    · have hn64 : 64 ≤ n := by omega
      have hm : mix8 ⟨va, vb, vc, vd, ve, vf, vg, vh⟩ s.data.toList = S8.add ⟨va, vb, vc, vd, ve, vf, vg, vh⟩ ⟨sa, sb, sc, sd, se, sf, sg, sh⟩ := by
        obtain rfl : n = 64 := by omega
        rw [mix8, ← Hst.out]
      have Hm := Veil.mk hm; clear hm hlt
      have k0 : (w2.drewN r).heap[w.heap.size]? = _ := K0.out
      have k1 : (w2.drewN r).heap[w.heap.size + 1]? = _ := K1.out
      have kb := belowDrewN Kb.out r
      generalize w2.drewN r = wr at k0 k1 kb ⊢
      have x0 := cell_of_row wr w.heap.size 0 _ _ _ k0
      have x1 := cell_of_row wr w.heap.size 1 _ _ _ k0
      have x2 := cell_of_row wr w.heap.size 2 _ _ _ k0
      have x3 := cell_of_row wr w.heap.size 3 _ _ _ k0
      have x4 := cell_of_row wr w.heap.size 4 _ _ _ k0
      have x5 := cell_of_row wr w.heap.size 5 _ _ _ k0
      have x6 := cell_of_row wr w.heap.size 6 _ _ _ k0
      have x7 := cell_of_row wr w.heap.size 7 _ _ _ k0
      have K1 := Veil.mk k1
      have Kb := Veil.mk kb
      clear k0 k1 kb
      have Hi : Veil (some 8 = some [w32 (va + sa), w32 (vb + sb), w32 (vc + sc), w32 (vd + sd), w32 (ve + se), w32 (vf + sf), w32 (vg + sg), w32 (vh + sh)].length) := ⟨rfl⟩
      go_wp2_with (refine st_all rfl _ (.tmp 4) (.tmp 130) rfl (w.heap.size + 1) rfl [w32 (va + sa), w32 (vb + sb), w32 (vc + sc), w32 (vd + sd), w32 (ve + se), w32 (vf + sf), w32 (vg + sg), w32 (vh + sh)] rfl K1.out (info8.trans Hi.out) rfl (by simp [Value.oneCell', w32]) ?_)
      refine bodyPost_ret (results_cell_row rfl _ _ (w.heap.size + 1) _ _ _ _ rfl (setRow_heap wr (w.heap.size + 1) _ _ _ _ K1.out) Tryd.underlying55 rfl (info8.trans Hi.out)) rfl ?_
      exact ⟨by rw [Hm.out]; rfl, belowSetRow Kb.out (by omega) _⟩
end Go.Proofs.YthnolonphjfoeaaDoor
