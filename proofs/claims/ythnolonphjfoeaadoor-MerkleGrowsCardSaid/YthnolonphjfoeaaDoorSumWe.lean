/- The walk of sum.Sha. -/
import Derived.Test.YthnolonphjfoeaaDoorSumWd
import Derived.Deep.RegionLaw
namespace Go.Proofs.YthnolonphjfoeaaDoor
set_option linter.unusedSectionVars false
set_option linter.unusedVariables false
set_option linter.unusedSimpArgs false
open Go.RowKit Sm
theorem idx8 (st : S8) (j : Nat) (hj : j < 8) : ∀ W : World, (Instr.index 55 (.agg st.cells.toArray) (.int .i64 (j : Int))).run Tryd.prog W = .ok (w32 (st.list.getD j 0)) W := by
  intro W
  rcases j with _ | _ | _ | _ | _ | _ | _ | _ | j
  all_goals first | omega | kernel_rfl
theorem keep1 {w w1 : World} {g : Nat} {o : Obj} (hb : Below w.drew.heap.size w.drew w1) (hlt : g < w.heap.size) (h : w.heap[g]? = some o) : w1.heap[g]? = some o := (hb.block g hlt).trans h
set_option maxRecDepth 100000 in
set_option maxHeartbeats 400000 in
theorem sha_any (s : ByteArray) (w : World) (hs : s.size ≤ 9223372036854775807) (hT : Tabs w) :
    Calls Tryd.prog 27 #[.string s] w fun e w' => e = .returned (.string ⟨(sha s.data.toList).toArray⟩) ∧ Below w.heap.size w w' := by
  have HT := Veil.mk hT
  have HI : Veil (∀ j u, init8.cells[j]? = some u → w.cell? ⟨0, 0 + j, none⟩ = some u) := ⟨fun j u hu => by
    rw [Nat.zero_add]
    have hj : j < 8 := (List.getElem?_eq_some_iff.1 hu).1
    rw [hT.2 j hj]
    rw [← hu]
    rcases j with _ | _ | _ | _ | _ | _ | _ | _ | j
    all_goals first | omega | rfl⟩
  clear hT
  have Hc8 : Veil (∀ (st : S8) j u, st.cells[j]? = some u → st.cells.toArray[0 + j]? = some u) := ⟨fun st j u hu => by simpa using hu⟩
  have Ho8 : Veil (∀ (st : S8), ∀ u ∈ st.cells, u.oneCell' = true) := ⟨fun st u hu => by
    simp only [S8.cells, List.mem_cons, List.not_mem_nil, or_false] at hu
    rcases hu with rfl | rfl | rfl | rfl | rfl | rfl | rfl | rfl <;> rfl⟩
  go_enter Tryd.func27, Tryd.ntmps27
  go_wp2_with (first
    | (refine ld_cells rfl _ (.global 0) rfl 0 0 rfl Tryd.underlying55 rfl init8.cells info8 HI.out ?_)
    | (refine st_new _ rfl _ (.tmp 3) (.tmp 8) rfl rfl init8.cells rfl info8 rfl (Ho8.out _) ?_))
  have k0 := heap_alloc_new w (.cells init8.cells.toArray 55)
  have b0 := (Below.refl w.heap.size w).alloc (Nat.le_refl _) (.cells init8.cells.toArray 55)
  generalize w.alloc (.cells init8.cells.toArray 55) = w2 at k0 b0 ⊢
  go_loopw [4] (fun r wr => ∃ (n : Nat) (x : ByteArray), r = .string x ∧ x.size ≤ 9223372036854775807 ∧ Veil (x.data.toList = s.data.toList.drop (64 * n)) ∧ 64 * n ≤ s.size ∧ wr.heap[w.heap.size]? = some (.cells (absorb s.data.toList init8 n).cells.toArray 55 (0, 0)) ∧ Below w.heap.size w wr) (fun r _ => match r with | .string x => x.size | _ => 0)
  case atStart => exact ⟨0, s, rfl, hs, ⟨by simp⟩, by omega, k0, b0⟩
  case round =>
    obtain ⟨n, x, rfl, hx, Hx, hn, k, hb⟩ := hrel
    have hxl : x.size = s.size - 64 * n := by have := congrArg List.length Hx.out; simpa using this
    have Hxl := Veil.mk hxl; clear hxl
    have HTr := Veil.mk (HT.out.below hb (Nat.le_refl _))
    have K := Veil.mk k; clear k
    have Hb := Veil.mk hb; clear hb
    by_cases hlt : 64 ≤ x.size
    · go_wp2
      have hgl := (Array.getElem?_eq_some_iff.1 K.out).1
      refine wp_region_still_tail 3 (by kernel_rfl) (by kernel_rfl) ?_
      simp only [List.take_succ_cons, List.take_zero, List.drop_succ_cons, List.drop_zero]
      refine still_ld_row rfl _ (.tmp 3) rfl w.heap.size 0 rfl K.out Tryd.underlying55 rfl (absorb s.data.toList init8 n).cells (info8.trans (congrArg some (cells_length _).symm)) (Hc8.out _) ?_
      repeat still_step
      refine wpStill_nil ?_
      change wpList _ _ _ _ _ wr.drew
      go_wp2_with (first
        | (go_at_call 42; refine (mix_any (absorb s.data.toList init8 n) _ _ (size64 x hlt) HTr.out.drew).mono ?_; rintro e w1 ⟨rfl, hb1⟩; generalize hs2 : mix8 (absorb s.data.toList init8 n) (x.extract 0 64).data.toList = st2; have Hs2 := Veil.mk hs2; clear hs2; have hk1 := Veil.mk (keep1 hb1 hgl K.out); have Hb1 := Veil.mk hb1; clear hb1)
        | (refine st_all rfl _ (.tmp 3) (.tmp 16) rfl w.heap.size rfl st2.cells rfl hk1.out (info8.trans (congrArg some (cells_length st2).symm)) (cells_fit st2 _) (Ho8.out _) ?_))
      have hk := Veil.mk (setRow_heap w1 w.heap.size _ st2.cells.toArray _ _ hk1.out)
      have hbe := Veil.mk (belowSetRow (Hb.out.drew.trans (Hb1.out.mono Hb.out.size)) (Nat.le_refl _) st2.cells.toArray)
      generalize w1.setRow w.heap.size st2.cells.toArray = w3 at hk hbe ⊢
      go_roundw
      case rel =>
        have hx64 := drop64 x x.size (Nat.le_refl _)
        refine ⟨n + 1, _, rfl, ?_, ⟨?_⟩, ?_, ?_, hbe.out⟩
        · rw [ByteArray.size_extract]; omega
        · rw [hx64, Hx.out, List.drop_drop]; congr 1
        · have := Hxl.out; omega
        · rw [absorb]
          rw [← Hx.out, ← take64, Hs2.out]
          exact hk.out
      case measure => simp only [ByteArray.size_extract]; omega
    · have hnq : s.size / 64 = n := by have := Hxl.out; omega
      have Hnq := Veil.mk hnq; clear hnq
      generalize hst : absorb s.data.toList init8 n = st1
      have Hst := Veil.mk hst; clear hst
      go_wp2_with (go_at_call 43; refine (ending_any x _ _ (by omega)).mono ?_; rintro e w1 ⟨rfl, hb1⟩)
      have hblk := ending_blocks x.data.toList s.size
      have htl := ending_length x.data.toList s.size
      generalize hT : Sm.ending x.data.toList s.size = T at hblk htl ⊢
      have HTl := Veil.mk hT; clear hT
      have hk1 := Veil.mk ((hb1.block _ ((Array.getElem?_eq_some_iff.1 K.out).1)).trans K.out)
      have hb1' := Veil.mk (Hb.out.trans (hb1.mono Hb.out.size))
      have hTs : T.length ≤ 300 := by
        have := zerosN_le (x.data.toList.length + 1)
        have : x.data.toList.length = x.size := by simp
        omega
      clear hb1 htl
      have Hblk := Veil.mk hblk; clear hblk
      go_loopw [4] (fun r wr => ∃ (n : Nat) (x : ByteArray), r = .string x ∧ x.size ≤ 300 ∧ Veil (x.data.toList = T.drop (64 * n)) ∧ 64 * n ≤ T.length ∧ Veil (wr.heap[w.heap.size]? = some (.cells (absorb T st1 n).cells.toArray 55 (0, 0))) ∧ Veil (Below w.heap.size w wr)) (fun r _ => match r with | .string x => x.size | _ => 0)
      case atStart => exact ⟨0, _, rfl, by simpa [ByteArray.size] using hTs, ⟨by simp⟩, by omega, ⟨by rw [absorb, ← Hst.out]; exact hk1.out⟩, hb1'⟩
      case round =>
        obtain ⟨m, y, rfl, hy, Hy, hm, K, Hb⟩ := hrel
        have hyl : y.size = T.length - 64 * m := by have := congrArg List.length Hy.out; simpa using this
        have Hyl := Veil.mk hyl; clear hyl
        have HTr := Veil.mk (HT.out.below Hb.out (Nat.le_refl _))
        by_cases hlt : 0 < y.size
        · have h64 : 64 ≤ y.size := by have := Hyl.out; have := Hblk.out; omega
          have hem := nonempty_of hlt
          have h64i : (64 : Int) ≤ y.size := by omega
          have hgl := (Array.getElem?_eq_some_iff.1 K.out).1
          go_wp2
          refine wp_region_still_tail 3 (by kernel_rfl) (by kernel_rfl) ?_
          simp only [List.take_succ_cons, List.take_zero, List.drop_succ_cons, List.drop_zero]
          refine still_ld_row rfl _ (.tmp 3) rfl w.heap.size 0 rfl K.out Tryd.underlying55 rfl (absorb T st1 m).cells (info8.trans (congrArg some (cells_length _).symm)) (Hc8.out _) ?_
          repeat still_step
          refine wpStill_nil ?_
          change wpList _ _ _ _ _ wr.drew
          go_wp2_with (first
            | (go_at_call 42; refine (mix_any (absorb T st1 m) _ _ (size64 y h64) HTr.out.drew).mono ?_; rintro e w1 ⟨rfl, hb1⟩; generalize hs2 : mix8 (absorb T st1 m) (y.extract 0 64).data.toList = st2; have Hs2 := Veil.mk hs2; clear hs2; have hk1 := Veil.mk (keep1 hb1 hgl K.out); have Hb1 := Veil.mk hb1; clear hb1)
            | (refine st_all rfl _ (.tmp 3) (.tmp 30) rfl w.heap.size rfl st2.cells rfl hk1.out (info8.trans (congrArg some (cells_length st2).symm)) (cells_fit st2 _) (Ho8.out _) ?_))
          have hk := Veil.mk (setRow_heap w1 w.heap.size _ st2.cells.toArray _ _ hk1.out)
          have hbe := Veil.mk (belowSetRow (Hb.out.drew.trans (Hb1.out.mono Hb.out.size)) (Nat.le_refl _) st2.cells.toArray)
          generalize w1.setRow w.heap.size st2.cells.toArray = w3 at hk hbe ⊢
          go_roundw
          case rel =>
            have hx64 := drop64 y y.size (Nat.le_refl _)
            refine ⟨m + 1, _, rfl, ?_, ⟨?_⟩, ?_, ⟨?_⟩, hbe⟩
            · rw [ByteArray.size_extract]; omega
            · rw [hx64, Hy.out, List.drop_drop]; congr 1
            · have := Hyl.out; omega
            · rw [absorb]
              rw [← Hy.out, ← take64, Hs2.out]
              exact hk.out
          case measure => simp only [ByteArray.size_extract]; omega
        · have hem := empty_of hlt
          have hmq : T.length / 64 = m := by have := Hyl.out; omega
          have hfin : shaState s.data.toList = absorb T st1 m := by
            have hsl : s.data.toList.length = s.size := by simp
            rw [shaState, hsl, Hnq.out, Hst.out, ← hmq, ← HTl.out, Hx.out]
          have Hfin := Veil.mk hfin; clear hfin hmq
          have hgl := (Array.getElem?_eq_some_iff.1 K.out).1
          generalize hst : absorb T st1 m = st at K Hfin
          clear hst
          have H32 : Veil ((32 : Nat) ≤ maxLen) := ⟨by unfold maxLen; omega⟩
          have hmk : ∀ W : World, (Instr.makeSlice 58 (.int .i64 0) (.int .i64 32)).run Tryd.prog W = .ok (.slice (some ⟨W.heap.size, 0, none⟩) 0 32) (W.alloc (.cells #[.int .u8 0, .int .u8 0, .int .u8 0, .int .u8 0, .int .u8 0, .int .u8 0, .int .u8 0, .int .u8 0, .int .u8 0, .int .u8 0, .int .u8 0, .int .u8 0, .int .u8 0, .int .u8 0, .int .u8 0, .int .u8 0, .int .u8 0, .int .u8 0, .int .u8 0, .int .u8 0, .int .u8 0, .int .u8 0, .int .u8 0, .int .u8 0, .int .u8 0, .int .u8 0, .int .u8 0, .int .u8 0, .int .u8 0, .int .u8 0, .int .u8 0, .int .u8 0] 5)) := fun _ => by kernel_rfl
          go_wp2_with (refine ld_row rfl _ (.tmp 3) rfl w.heap.size 0 rfl ((heap_alloc_old _ _ hgl).trans K.out) Tryd.underlying55 rfl st.cells (info8.trans (congrArg some (cells_length _).symm)) (Hc8.out _) ?_)
          have own0 : Own (wr.alloc (.cells #[.int .u8 0, .int .u8 0, .int .u8 0, .int .u8 0, .int .u8 0, .int .u8 0, .int .u8 0, .int .u8 0, .int .u8 0, .int .u8 0, .int .u8 0, .int .u8 0, .int .u8 0, .int .u8 0, .int .u8 0, .int .u8 0, .int .u8 0, .int .u8 0, .int .u8 0, .int .u8 0, .int .u8 0, .int .u8 0, .int .u8 0, .int .u8 0, .int .u8 0, .int .u8 0, .int .u8 0, .int .u8 0, .int .u8 0, .int .u8 0, .int .u8 0, .int .u8 0] 5)) w.heap.size 5 1 (.slice (some ⟨wr.heap.size, 0, none⟩) 0 32) [] := Own.made Hb.out.size H32.out rfl
          have hb3 := Hb.out.alloc Hb.out.size (.cells #[.int .u8 0, .int .u8 0, .int .u8 0, .int .u8 0, .int .u8 0, .int .u8 0, .int .u8 0, .int .u8 0, .int .u8 0, .int .u8 0, .int .u8 0, .int .u8 0, .int .u8 0, .int .u8 0, .int .u8 0, .int .u8 0, .int .u8 0, .int .u8 0, .int .u8 0, .int .u8 0, .int .u8 0, .int .u8 0, .int .u8 0, .int .u8 0, .int .u8 0, .int .u8 0, .int .u8 0, .int .u8 0, .int .u8 0, .int .u8 0, .int .u8 0, .int .u8 0] 5)
          go_loopw [5, 7, 33] (fun v _ i wx => ∃ j : Nat, j ≤ 8 ∧ i = .int .i64 j ∧ Own wx w.heap.size 5 1 v (((st.list.take j).flatMap be4).map w8) ∧ Below w.heap.size w wx) (fun _ _ i _ => 8 - (intOf i).toNat)
          case atStart => exact ⟨0, by omega, rfl, own0, hb3⟩
          case round =>
            obtain ⟨j, hj, rfl, hown, hbx⟩ := hrel
            have hle := hbx.size
            by_cases hlt : j < 8
            · have hi := idx8 st j hlt
              have hlen : ((st.list.take j).flatMap be4).length ≤ 32 := by
                rcases j with _ | _ | _ | _ | _ | _ | _ | _ | j
                all_goals first | (simp [S8.list, be4]; done) | omega
              generalize hxj : st.list.getD j 0 = xj at hi
              have Hxj := Veil.mk hxj; clear hxj
              have Hlen := Veil.mk hlen; clear hlen
              go_wp2_with (at_builtin; refine ap_lit wr rfl _ _ _ rfl elem8 [_, _, _, _] hown rfl rfl ?_ ?_ ?_ hle ?_; rotate_left 3; intro v' w' own' gr')
              rotate_left 1
              · exact oneCell_map8 (be4 xj)
              · rw [List.length_map]; have := Hlen.out; simp only [List.length_cons, List.length_nil]; omega
              · rw [List.length_map]; have := Hlen.out; simp only [List.length_cons, List.length_nil]; omega
              have own2 : Own w' w.heap.size 5 1 v' (((st.list.take (j + 1)).flatMap be4).map w8) := by
                rw [digest_snoc _ _ hlt, List.map_append, Hxj.out]; exact own'
              have hb' := belowOwn hbx gr' hown (Nat.le_refl _) hle
              clear own' gr' hown hbx
              go_wp2
              go_roundw
              case rel => exact ⟨j + 1, by omega, by go_num, own2, hb'⟩
              case measure => simp [intOf]; omega
            · obtain rfl : j = 8 := by omega
              have hc := str_run (P := Tryd.prog) wr 58 9 5 Tryd.underlying58 Tryd.underlying5 Tryd.underlying9 hown.rd
              go_wp2
              go_ret
              exact ⟨by rw [sha, Hfin.out]; rfl, hbx⟩
end Go.Proofs.YthnolonphjfoeaaDoor
