/- The walks of agoraref03.firsts, adds and next. -/
import Derived.Test.YtnjjldhcpiehkaaGreatDoorSumRc
namespace Go.Proofs.YtnjjldhcpiehkaaGreatDoor
set_option linter.unusedSectionVars false
set_option linter.unusedVariables false
set_option linter.unusedSimpArgs false
open Go.RowKit Sm
/-- a callee that draws, met in a quiet region behind earlier draws -/
theorem quiet_more {P : Program} {f : FuncId} {args : Array Value} {w : World} {j n : Nat} {v : Value}
    (h : Calls P f args (w.drewN (j + n)) fun e w' => e = .returned v ∧ ∃ m, w' = (w.drewN (j + n)).drewN m) : Calls P f args (w.drewN (j + n)) fun e w'' => e = .returned v ∧ ∃ m, w'' = w.drewN (j + m) :=
  h.mono fun _ _ ⟨he, m, hm⟩ => ⟨he, n + m, by rw [hm, World.drewN_drewN, Nat.add_assoc]⟩
theorem tabK_cells : (tabK.map w32).toArray = #[.int .u32 1116352408, .int .u32 1899447441, .int .u32 3049323471, .int .u32 3921009573, .int .u32 961987163, .int .u32 1508970993, .int .u32 2453635748, .int .u32 2870763221, .int .u32 3624381080, .int .u32 310598401, .int .u32 607225278, .int .u32 1426881987, .int .u32 1925078388, .int .u32 2162078206, .int .u32 2614888103, .int .u32 3248222580, .int .u32 3835390401, .int .u32 4022224774, .int .u32 264347078, .int .u32 604807628, .int .u32 770255983, .int .u32 1249150122, .int .u32 1555081692, .int .u32 1996064986, .int .u32 2554220882, .int .u32 2821834349, .int .u32 2952996808, .int .u32 3210313671, .int .u32 3336571891, .int .u32 3584528711, .int .u32 113926993, .int .u32 338241895, .int .u32 666307205, .int .u32 773529912, .int .u32 1294757372, .int .u32 1396182291, .int .u32 1695183700, .int .u32 1986661051, .int .u32 2177026350, .int .u32 2456956037, .int .u32 2730485921, .int .u32 2820302411, .int .u32 3259730800, .int .u32 3345764771, .int .u32 3516065817, .int .u32 3600352804, .int .u32 4094571909, .int .u32 275423344, .int .u32 430227734, .int .u32 506948616, .int .u32 659060556, .int .u32 883997877, .int .u32 958139571, .int .u32 1322822218, .int .u32 1537002063, .int .u32 1747873779, .int .u32 1955562222, .int .u32 2024104815, .int .u32 2227730452, .int .u32 2361852424, .int .u32 2428436474, .int .u32 2756734187, .int .u32 3204031479, .int .u32 3329325298] := by kernel_rfl
/-- a fact on the cells of a row, from its list -/
theorem cells_of {w : World} {g : Nat} {l : List (BitVec 32)} (h : ∀ j u, (l.map w32)[j]? = some u → w.cell? ⟨g, j, none⟩ = some u) (j : Nat) (hj : j < l.length) : w.cell? ⟨g, j, none⟩ = some (w32 (l.getD j 0)) :=
  h j _ (by rw [List.getElem?_map, List.getElem?_eq_getElem hj, List.getD_eq_getElem?_getD, List.getElem?_eq_getElem hj]; rfl)
theorem radds_any (w : World) : Calls Tryz.prog 198 #[] w fun e w' => ∃ v, e = .returned v ∧ Own w' w.heap.size 121 1 v (tabK.map w32) ∧ Below w.heap.size w w' := by
  go_enter Tryz.func198, Tryz.ntmps198
  go_wp2
  go_ret
  refine ⟨_, rfl, ?_, (Below.refl _ _).alloc (Nat.le_refl _) _⟩
  have h := Own.lit (e := 121) (base := w.heap.size) (size := 1) w (tabK.map w32) 64 (Nat.le_refl _) (by unfold maxLen; omega) (by rw [List.length_map, tabK_length])
  rw [tabK_cells] at h
  exact h
theorem init8_cells : init8.cells.toArray = #[.int .u32 1779033703, .int .u32 3144134277, .int .u32 1013904242, .int .u32 2773480762, .int .u32 1359893119, .int .u32 2600822924, .int .u32 528734635, .int .u32 1541459225] := by kernel_rfl
theorem rfirsts_any (w : World) : Calls Tryz.prog 157 #[] w fun e w' => ∃ v, e = .returned v ∧ Own w' w.heap.size 121 1 v init8.cells ∧ Below w.heap.size w w' := by
  go_enter Tryz.func157, Tryz.ntmps157
  go_wp2
  go_ret
  refine ⟨_, rfl, ?_, (Below.refl _ _).alloc (Nat.le_refl _) _⟩
  have h := Own.lit (e := 121) (base := w.heap.size) (size := 1) w init8.cells 8 (Nat.le_refl _) (by unfold maxLen; omega) (by rw [cells_length])
  rw [init8_cells] at h
  exact h
set_option maxRecDepth 100000 in
set_option maxHeartbeats 4000000 in
theorem rnext_any (st : S8) (gh ch g o c : Nat) (l : List UInt8) (w : World) (hh : ∀ j, j < 8 → w.cell? ⟨gh, j, none⟩ = some (w32 (st.list.getD j 0))) (hgh : gh < w.heap.size) (hch : 8 ≤ ch)
    (hcell : ∀ j, j < 64 → w.cell? ⟨g, o + j, none⟩ = some (w8 (l.getD j 0))) (hl : l.length = 64) (hc : 64 ≤ c) (hB : g < w.heap.size) :
    Calls Tryz.prog 158 #[.slice (some ⟨gh, 0, none⟩) 8 ch, .slice (some ⟨g, o, none⟩) 64 c] w fun e w' => ∃ v', e = .returned v' ∧ Own w' w.heap.size 121 1 v' (mix8 st l).cells ∧ Below w.heap.size w w' := by
  have Hh := Veil.mk hh; clear hh
  have Hcell := Veil.mk hcell; clear hcell
  have Hl := Veil.mk hl; clear hl
  have Hr : Rd w w.heap.size 1 (.slice (some ⟨gh, 0, none⟩) 8 ch) st.cells := ⟨_, 8, ch, rfl, hch, rfl, fun _ => ⟨_, rfl, hgh, fun j u hu => by
    have hj : j < 8 := (List.getElem?_eq_some_iff.1 hu).1
    rw [Addr.add_lit, Nat.zero_add, Hh.out j hj]
    rw [cells_list, List.getElem?_map] at hu
    rw [List.getD_eq_getElem?_getD]
    obtain ⟨x, hx, rfl⟩ := Option.map_eq_some_iff.1 hu
    rw [hx]; rfl⟩⟩
  have HR := Veil.mk Hr; clear Hr
  go_enter Tryz.func158, Tryz.ntmps158
  go_wp2_with (first
    | (go_at_call 197
       refine (rwords_any g o c l _ Hcell.out Hl.out hc hB).mono ?_
       rintro e w1 ⟨vw, rfl, ownw, hb1⟩
       have hs1 := hb1.size
       have HB1 := Veil.mk hb1; clear hb1)
    | (go_at_call 198
       refine (radds_any _).mono ?_
       rintro e w2 ⟨vk, rfl, ownk, hb2⟩
       have hs2 := hb2.size
       have HB2 := Veil.mk hb2; clear hb2
       have Hownw := Veil.mk (ownw.below HB2.out (Nat.le_refl _)); clear ownw
       have Hownk := Veil.mk ownk; clear ownk
       have HB := Veil.mk (HB1.out.trans (HB2.out.mono hs1)); clear HB1 HB2
       have HR2 := Veil.mk (HR.out.below HB.out)
       have HO8 := Veil.mk (oneCell_map32 st.list)
       have H0 := Veil.mk (Own.lit (e := 121) (base := w.heap.size) (size := 1) w2 [] 0 (by omega) (by unfold maxLen; omega) rfl)
       have HR3 := Veil.mk (HR2.out.alloc (Nat.le_trans hs1 hs2) (.cells #[] 121))
       have hle2 : w.heap.size ≤ (w2.alloc (.cells #[] 121)).heap.size := by simp; omega
       clear HR HR2)
    | (at_builtin
       go_loud (refine ap_any (w2.alloc (.cells #[] 121)) rfl _ _ _ rfl elem32 H0.out rfl HR3.out rfl HO8.out ?_ ?_ hle2 ?_)
       rotate_left 2
       intro v3 w3 own3 gr3 hx3
       clear hx3
       have gr3 : w2.grownBy w3 (some w2.heap.size) := grown_of_alloc gr3
       have hs3 := gr3.size
       have HBw : Below w.heap.size w w3 := HB.out.grown gr3 (by omega) (fun k hk => by cases hk; omega)
       have own3 : Own w3 w.heap.size 121 1 v3 (st.list.map w32) := own3
       have hw3 := Hownw.out.grown gr3 (fun g hg => by have := (Hownw.out.block g hg).2; simp; omega)
       have hk3 := Hownk.out.grown gr3 (fun g hg => by have := (Hownk.out.block g hg).2; simp; omega)
       clear gr3 H0 HR3 HO8))
  rotate_left 1
  · show (0 + 8) * 4 ≤ _; omega
  · show 0 + 8 ≤ _; omega
  obtain ⟨gw, cw, rfl, hcw, hbw, hgw, hcellw⟩ := hw3.form (by rw [List.length_map, sched_length]; omega)
  obtain ⟨gk, ck, rfl, hck, hbk, hgk, hcellk⟩ := hk3.form (by rw [List.length_map, tabK_length]; omega)
  have CW := Veil.mk (cells_of hcellw); clear hcellw hw3 Hownw
  have CK := Veil.mk (cells_of hcellk); clear hcellk hk3 Hownk
  rw [List.length_map, sched_length] at hcw ⊢
  rw [List.length_map, tabK_length] at hck ⊢
  have HBw := Veil.mk HBw
  have HB3 := Veil.mk (Below.refl w3.heap.size w3)
  have Own3 := Veil.mk own3
  clear own3
  go_loopw [7, 8, 9, 10, 11, 12] (fun v i _ _ _ _ wr => ∃ (n : Nat) (s : S8), n ≤ 64 ∧ i = .int .i64 n ∧ Veil (Own wr w.heap.size 121 1 v (s.list.map w32)) ∧ Veil (s = rounds8 l st n) ∧ Veil (Below w3.heap.size w3 wr)) (fun _ i _ _ _ _ _ => 64 - (intOf i).toNat)
  case atStart => exact ⟨0, st, by omega, rfl, Own3, ⟨rfl⟩, HB3⟩
  case round =>
    obtain ⟨n, s, hn, rfl, Hown, Hs, HBr⟩ := hrel
    obtain ⟨gv, cv, rfl, hcv, hbv, hgv, hcellv⟩ := Hown.out.form (by rw [List.length_map, list_length]; omega)
    rw [List.length_map, list_length] at hcv ⊢
    have CV := Veil.mk (cells_of hcellv); clear hcellv
    by_cases hlt : n < 64
    · have ck := (HBr.out.cell hgk).trans (CK.out n (by rw [tabK_length]; exact hlt))
      have cw := (HBr.out.cell hgw).trans (CW.out n (by rw [sched_length]; exact hlt))
      have hrd : rounds8 l st (n + 1) = round8 (tabK.getD n 0) ((sched l).getD n 0) s := by rw [rounds8, ← Hs.out]
      generalize tabK.getD n 0 = kn at ck hrd
      generalize (sched l).getD n 0 = xn at cw hrd
      have Hrd := Veil.mk hrd; clear hrd
      obtain ⟨sa, sb, sc, sd, se, sf, sg, sh⟩ := s
      have c0 : wr.cell? ⟨gv, 0, none⟩ = some (w32 sa) := CV.out 0 (by show 0 < 8; omega)
      have c1 : wr.cell? ⟨gv, 1, none⟩ = some (w32 sb) := CV.out 1 (by show 1 < 8; omega)
      have c2 : wr.cell? ⟨gv, 2, none⟩ = some (w32 sc) := CV.out 2 (by show 2 < 8; omega)
      have c3 : wr.cell? ⟨gv, 3, none⟩ = some (w32 sd) := CV.out 3 (by show 3 < 8; omega)
      have c4 : wr.cell? ⟨gv, 4, none⟩ = some (w32 se) := CV.out 4 (by show 4 < 8; omega)
      have c5 : wr.cell? ⟨gv, 5, none⟩ = some (w32 sf) := CV.out 5 (by show 5 < 8; omega)
      have c6 : wr.cell? ⟨gv, 6, none⟩ = some (w32 sg) := CV.out 6 (by show 6 < 8; omega)
      have c7 : wr.cell? ⟨gv, 7, none⟩ = some (w32 sh) := CV.out 7 (by show 7 < 8; omega)
      clear CV
      go_wp2
      go_quiet ((go_at_call 199; first | exact Calls.quiet_of (rturn_any _ _ _ (by omega) (by omega)) | exact quiet_more (rturn_any _ _ _ (by omega) (by omega))))
      go_wp2
      go_quiet (fail)
      go_wp2
      generalize hwq : World.drewN (World.drewN wr _) _ = wq
      have c0 : wq.cell? ⟨gv, 0, none⟩ = some (w32 sa) := by rw [← hwq]; exact c0
      have c1 : wq.cell? ⟨gv, 1, none⟩ = some (w32 sb) := by rw [← hwq]; exact c1
      have c2 : wq.cell? ⟨gv, 2, none⟩ = some (w32 sc) := by rw [← hwq]; exact c2
      have c3 : wq.cell? ⟨gv, 3, none⟩ = some (w32 sd) := by rw [← hwq]; exact c3
      have c4 : wq.cell? ⟨gv, 4, none⟩ = some (w32 se) := by rw [← hwq]; exact c4
      have c5 : wq.cell? ⟨gv, 5, none⟩ = some (w32 sf) := by rw [← hwq]; exact c5
      have c6 : wq.cell? ⟨gv, 6, none⟩ = some (w32 sg) := by rw [← hwq]; exact c6
      have c7 : wq.cell? ⟨gv, 7, none⟩ = some (w32 sh) := by rw [← hwq]; exact c7
      have HBq := Veil.mk (show Below w3.heap.size w3 wq by rw [← hwq]; exact belowDrewN (belowDrewN HBr.out _) _)
      clear hwq ck cw
      go_quiet ((go_at_call 199; first | exact Calls.quiet_of (rturn_any _ _ _ (by omega) (by omega)) | (refine quiet_more ?_; exact rturn_any _ _ _ (by omega) (by omega))))
      go_wp2
      go_quiet (fail)
      go_wp2
      generalize hwz : World.drewN (World.drewN wq _) _ = wz
      have c0 : wz.cell? ⟨gv, 0, none⟩ = some (w32 sa) := by rw [← hwz]; exact c0
      have c1 : wz.cell? ⟨gv, 1, none⟩ = some (w32 sb) := by rw [← hwz]; exact c1
      have c2 : wz.cell? ⟨gv, 2, none⟩ = some (w32 sc) := by rw [← hwz]; exact c2
      have c3 : wz.cell? ⟨gv, 3, none⟩ = some (w32 sd) := by rw [← hwz]; exact c3
      have c4 : wz.cell? ⟨gv, 4, none⟩ = some (w32 se) := by rw [← hwz]; exact c4
      have c5 : wz.cell? ⟨gv, 5, none⟩ = some (w32 sf) := by rw [← hwz]; exact c5
      have c6 : wz.cell? ⟨gv, 6, none⟩ = some (w32 sg) := by rw [← hwz]; exact c6
      have HBz := Veil.mk (show Below w3.heap.size w3 wz by rw [← hwz]; exact belowDrewN (belowDrewN HBq.out _) _)
      clear hwz HBq
      have hsz := HBz.out.size
      refine wp_region_still_tail 26 (by kernel_rfl) (by kernel_rfl) ?_
      simp only [List.take_succ_cons, List.take_zero, List.drop_succ_cons, List.drop_zero]
      repeat still_step
      refine wpStill_nil ?_
      change wpList _ _ _ _ _ wz.drew
      go_wp2
      have HBn := Veil.mk ((HBz.out.drew).alloc hsz (.cells (round8 kn xn ⟨sa, sb, sc, sd, se, sf, sg, sh⟩).cells.toArray 121))
      have HOn := Veil.mk (Own.lit (e := 121) (base := w.heap.size) (size := 1) wz.drew (round8 kn xn ⟨sa, sb, sc, sd, se, sf, sg, sh⟩).cells 8 (Nat.le_trans HBw.out.size hsz) (by unfold maxLen; omega) rfl)
      go_roundw
      case rel => exact ⟨n + 1, round8 kn xn ⟨sa, sb, sc, sd, se, sf, sg, sh⟩, by omega, by go_num, HOn, ⟨Hrd.out.symm⟩, HBn⟩
      case measure => simp [intOf]; omega
    · have hn64 : 64 ≤ n := by omega
      have Hm : Veil (mix8 st l = st.add s) := ⟨by
        obtain rfl : n = 64 := by omega
        rw [mix8, ← Hs.out]⟩
      have HBw2 := Veil.mk (HBw.out.trans (HBr.out.mono HBw.out.size))
      clear CV hlt HBr Hs
      go_wp2
      go_loopw [13] (fun i wr => ∃ k : Nat, k ≤ 8 ∧ i = .int .i64 k ∧ Veil (Own wr w.heap.size 121 1 (.slice (some ⟨gv, 0, none⟩) 8 cv) ((addTo s.list st.list k).map w32)) ∧ Veil (Below w.heap.size w wr)) (fun i _ => 8 - (intOf i).toNat)
      case atStart => exact ⟨0, by omega, rfl, Hown, HBw2⟩
      case round =>
        clear Hown HBw2 hgv
        obtain ⟨k, hk, rfl, Hown, HB⟩ := hrel
        by_cases hlt : k < 8
        · have hal := addTo_length s.list st.list k
          rw [list_length] at hal
          obtain ⟨gv', cv', hv', _, hbg, hgv, hcellv⟩ := Hown.out.form (by rw [List.length_map]; omega)
          obtain ⟨rfl, rfl⟩ : gv = gv' ∧ cv = cv' := by
            simp only [Value.slice.injEq, Option.some.injEq, Addr.mk.injEq] at hv'
            exact ⟨hv'.1.1, hv'.2.2⟩
          clear hv'
          have cv := cells_of hcellv k (by omega)
          have chh := (HB.out.cell hgh).trans (Hh.out k hlt)
          have hfz := Hown.out.free k (by rw [List.length_map]; omega)
          clear hcellv
          have hset : addTo s.list st.list (k + 1) = (addTo s.list st.list k).set k ((addTo s.list st.list k).getD k 0 + st.list.getD k 0) := rfl
          generalize (addTo s.list st.list k).getD k 0 = x at cv hset
          generalize st.list.getD k 0 = y at chh hset
          have Hset := Veil.mk hset; clear hset
          have Hal := Veil.mk hal; clear hal
          have k8 : (k : Int) < 8 := by omega
          go_wp2
          refine wp_region_still_tail 12 (by kernel_rfl) (by kernel_rfl) ?_
          simp only [List.take_succ_cons, List.take_zero, List.drop_succ_cons, List.drop_zero]
          repeat still_step
          refine wpStill_nil ?_
          change wpList _ _ _ _ _ wr.drew
          go_wp2
          have HOn := Veil.mk (Hown.out.drew.set k (by rw [List.length_map]; have := Hal.out; omega) (w32 (x + y)))
          have HBn := Veil.mk ((belowDrewN HB.out 1).setCell (p := ⟨gv, k, none⟩) hbg (w32 (x + y)))
          go_roundw
          case rel => exact ⟨k + 1, by omega, by go_num, ⟨by rw [Hset.out, List.map_set]; exact HOn.out⟩, HBn⟩
          case measure => simp [intOf]; omega
        · have hk8 : 8 ≤ k := by omega
          have hfin : (addTo s.list st.list k).map w32 = (mix8 st l).cells := by
            obtain rfl : k = 8 := by omega
            rw [Hm.out, addTo_all]
          have Hf := Veil.mk hfin; clear hfin
          clear hlt
          go_wp2
          go_ret
          exact ⟨_, rfl, by rw [← Hf.out]; exact Hown.out, HB.out⟩
end Go.Proofs.YtnjjldhcpiehkaaGreatDoor
