/- The walk of agoraref03.words. -/
import Derived.Test.YtnjjldhcpiehkaaGreatDoorSumRa
import Derived.Deep.RegionHeld3
namespace Go.Proofs.YtnjjldhcpiehkaaGreatDoor
set_option linter.unusedSectionVars false
set_option linter.unusedVariables false
set_option linter.unusedSimpArgs false
open Go.RowKit Sm
theorem elem32 : ElemOk Tryz.prog 144 121 1 4 := ElemOk.mk' (z := .int .u32 0) Tryz.underlying144 (by kernel_rfl) rfl (by decide)
set_option maxRecDepth 100000 in
set_option maxHeartbeats 4000000 in
theorem rwords_any (g o c : Nat) (l : List UInt8) (w : World) (hcell : ∀ j, j < 64 → w.cell? ⟨g, o + j, none⟩ = some (w8 (l.getD j 0))) (hl : l.length = 64) (_hc : 64 ≤ c) (hB : g < w.heap.size) :
    Calls Tryz.prog 197 #[.slice (some ⟨g, o, none⟩) 64 c] w fun e w' => ∃ v', e = .returned v' ∧ Own w' w.heap.size 121 1 v' ((sched l).map w32) ∧ Below w.heap.size w w' := by
  have Hcell := Veil.mk hcell; clear hcell
  have Hl := Veil.mk hl; clear hl
  go_enter Tryz.func197, Tryz.ntmps197
  go_wp2
  go_loopw [3, 4] (fun v i wr => ∃ k : Nat, k ≤ 16 ∧ i = .int .i64 k ∧ Own wr w.heap.size 121 1 v ((firstW l k).map w32) ∧ Below w.heap.size w wr) (fun _ i _ => 16 - (intOf i).toNat)
  case atStart => exact ⟨0, by omega, rfl, Own.nil _ _ _ _, Below.refl _ _⟩
  case round =>
    obtain ⟨k, hk, rfl, hown, hb⟩ := hrel
    have hle := hb.size
    by_cases hlt : k < 16
    · have rd : ∀ j, j < 64 → wr.cell? ⟨g, o + j, none⟩ = some (w8 (l.getD j 0)) := fun j hj => (hb.cell hB).trans (Hcell.out j hj)
      have c0 := rd (4 * k) (by omega)
      have c1 := rd (4 * k + 1) (by omega)
      have c2 := rd (4 * k + 2) (by omega)
      have c3 := rd (4 * k + 3) (by omega)
      clear rd
      have hw : word4 (l.getD (4 * k) 0) (l.getD (4 * k + 1) 0) (l.getD (4 * k + 2) 0) (l.getD (4 * k + 3) 0) = wordAt l k := rfl
      have Hw := Veil.mk hw; clear hw
      generalize l.getD (4 * k) 0 = b0 at c0 Hw
      generalize l.getD (4 * k + 1) 0 = b1 at c1 Hw
      generalize l.getD (4 * k + 2) 0 = b2 at c2 Hw
      generalize l.getD (4 * k + 3) 0 = b3 at c3 Hw
      have c2' : wr.cell? ⟨g, o + (4 * k + 1 + 1), none⟩ = some (w8 b2) := c2
      have c3' : wr.cell? ⟨g, o + (4 * k + 2 + 1), none⟩ = some (w8 b3) := c3
      clear c2 c3
      have hC : ∀ {W : World}, Below w.heap.size w W → W.cell? ⟨g, o + 4 * k, none⟩ = some (w8 b0) ∧ W.cell? ⟨g, o + (4 * k + 1), none⟩ = some (w8 b1) ∧ W.cell? ⟨g, o + (4 * k + 1 + 1), none⟩ = some (w8 b2) ∧ W.cell? ⟨g, o + (4 * k + 2 + 1), none⟩ = some (w8 b3) := fun hB' =>
        ⟨(hB'.cell hB).trans ((hb.cell hB).symm.trans c0), (hB'.cell hB).trans ((hb.cell hB).symm.trans c1), (hB'.cell hB).trans ((hb.cell hB).symm.trans c2'), (hB'.cell hB).trans ((hb.cell hB).symm.trans c3')⟩
      have HC := Veil.mk @hC; clear hC
      have hsum := word4_sum b0 b1 b2 b3
      have Hsum := Veil.mk (hsum.trans Hw.out); clear hsum Hw
      have i0 : (4 : Int) * (k : Int) < 64 := by omega
      have i1 : (4 : Int) * (k : Int) + 1 < 64 := by omega
      have i2 : (4 : Int) * (k : Int) + 2 < 64 := by omega
      have i3 : (4 : Int) * (k : Int) + 3 < 64 := by omega
      have w0 : IntKind.i64.wrap (4 * (k : Int)) = 4 * (k : Int) := by rw [IntKind.wrap_i64]; omega
      have w1 : IntKind.i64.wrap (4 * (k : Int) + 1) = 4 * (k : Int) + 1 := by rw [IntKind.wrap_i64]; omega
      have w2 : IntKind.i64.wrap (4 * (k : Int) + 2) = 4 * (k : Int) + 2 := by rw [IntKind.wrap_i64]; omega
      have w3 : IntKind.i64.wrap (4 * (k : Int) + 3) = 4 * (k : Int) + 3 := by rw [IntKind.wrap_i64]; omega
      have t0 : (4 * (k : Int)).toNat = 4 * k := by omega
      have t1 : (4 * (k : Int) + 1).toNat = 4 * k + 1 := by omega
      have t2 : (4 * (k : Int) + 2).toNat = 4 * k + 2 := by omega
      have t3 : (4 * (k : Int) + 3).toNat = 4 * k + 3 := by omega
      have p0 : 0 ≤ 4 * (k : Int) := by omega
      have p1 : 0 ≤ 4 * (k : Int) + 1 := by omega
      have p2 : 0 ≤ 4 * (k : Int) + 2 := by omega
      have p3 : 0 ≤ 4 * (k : Int) + 3 := by omega
      have hl1 : (((firstW l k).map w32).length + [w32 (bw b0 * 16777216#32 + bw b1 * 65536#32 + bw b2 * 256#32 + bw b3)].length) * 4 ≤ 140737488355328 := by
        rw [List.length_map, firstW_length]; simp only [List.length_singleton]; omega
      have hl2 : ((firstW l k).map w32).length + [w32 (bw b0 * 16777216#32 + bw b1 * 65536#32 + bw b2 * 256#32 + bw b3)].length ≤ 140737488355328 := by
        rw [List.length_map, firstW_length]; simp only [List.length_singleton]; omega
      have HL1 := Veil.mk hl1
      have HL2 := Veil.mk hl2
      clear hl1 hl2
      go_wp2
      have Hb := Veil.mk hb; have Hown := Veil.mk hown; have HlE := Veil.mk hle; clear hb hown hle
      go_region_held3 (fun W => W.cell? ⟨g, o + 4 * k, none⟩ = some (w8 b0) ∧ W.cell? ⟨g, o + (4 * k + 1), none⟩ = some (w8 b1) ∧ W.cell? ⟨g, o + (4 * k + 1 + 1), none⟩ = some (w8 b2) ∧ W.cell? ⟨g, o + (4 * k + 2 + 1), none⟩ = some (w8 b3)) (first | go_keep | exact HC.out hb') (first | (refine step_ap_lit wr.drew rfl (.tmp 14) (.tmp 48) _ rfl elem32 [w32 (bw b0 * 16777216#32 + bw b1 * 65536#32 + bw b2 * 256#32 + bw b3)] Hown.out.drew rfl rfl (one1 rfl) HL1.out HL2.out HlE.out ?_; intro v' w' own' gr'; have hb' := belowOwn Hb.out.drew gr' Hown.out.drew (Nat.le_refl _) HlE.out))
      all_goals
        have hb := Hb.out
        have hown := Hown.out
        have hle := HlE.out
        have own2 : Own w' w.heap.size 121 1 v' ((firstW l (k + 1)).map w32) := by
          rw [firstW_snoc, List.map_append, ← Hsum.out]; exact own'
        clear own' gr'
        go_wp2
        go_roundw
        case rel => exact ⟨k + 1, by omega, by go_num, own2, hb'⟩
        case measure => simp [intOf]; omega
    · have hk16 : 16 ≤ k := by omega
      have hown := Veil.mk (show Own wr w.heap.size 121 1 _ ((schedN l (16 - 16)).map w32) by
        obtain rfl : k = 16 := by omega
        exact hown)
      clear hlt
      go_wp2
      go_loopw [3, 5, 6, 7, 8, 9] (fun v i _ _ _ _ wr => ∃ m : Nat, 16 ≤ m ∧ m ≤ 64 ∧ i = .int .i64 m ∧ Own wr w.heap.size 121 1 v ((schedN l (m - 16)).map w32) ∧ Below w.heap.size w wr) (fun _ i _ _ _ _ _ => 64 - (intOf i).toNat)
      case atStart => exact ⟨16, by omega, by omega, rfl, hown.out, hb⟩
      case round =>
        clear hown hb hle
        obtain ⟨m, hm0, hm, rfl, hown, hb⟩ := hrel
        have hle := hb.size
        by_cases hlt : m < 64
        · have hlen := schedN_length l (m - 16)
          obtain ⟨gw, cw, rfl, hcw, hbw, hgw, hcellw⟩ := hown.form (by rw [List.length_map]; omega)
          rw [List.length_map, hlen, show 16 + (m - 16) = m from by omega] at hown hcw ⊢
          have rd : ∀ j, j < m → wr.cell? ⟨gw, j, none⟩ = some (w32 ((schedN l (m - 16)).getD j 0)) := fun j hj => hcellw j _ (by
            rw [List.getElem?_map, List.getElem?_eq_getElem (by omega), List.getD_eq_getElem?_getD, List.getElem?_eq_getElem (by omega)]; rfl)
          clear hcellw
          have c15 := rd (m - 15) (by omega)
          have c2 := rd (m - 2) (by omega)
          have c7 := rd (m - 7) (by omega)
          have c16 := rd (m - 16) (by omega)
          clear rd
          have hnx : nextW (schedN l (m - 16)) m = (schedN l (m - 16)).getD (m - 16) 0 + sig0 ((schedN l (m - 16)).getD (m - 15) 0) + (schedN l (m - 16)).getD (m - 7) 0 + sig1 ((schedN l (m - 16)).getD (m - 2) 0) := rfl
          generalize (schedN l (m - 16)).getD (m - 16) 0 = x16 at c16 hnx
          generalize (schedN l (m - 16)).getD (m - 15) 0 = x15 at c15 hnx
          generalize (schedN l (m - 16)).getD (m - 7) 0 = x7 at c7 hnx
          generalize (schedN l (m - 16)).getD (m - 2) 0 = x2 at c2 hnx
          have Hnx := Veil.mk hnx; clear hnx
          have Hlen := Veil.mk hlen; clear hlen
          have Hown := Veil.mk hown; have Hb := Veil.mk hb; clear hown hb
          have b1 : 16 ≤ (m : Int) := by omega
          have b2 : (m : Int) < 64 := by omega
          go_wp2_with (go_at_call 199; refine (rturn_any _ _ _ (by omega) (by omega)).mono ?_; rintro e w' ⟨rfl, mm, rfl⟩)
          generalize hwz : World.drewN wr _ = wz
          have c16 : wz.cell? ⟨gw, m - 16, none⟩ = some (w32 x16) := by rw [← hwz]; exact c16
          have c7 : wz.cell? ⟨gw, m - 7, none⟩ = some (w32 x7) := by rw [← hwz]; exact c7
          have Hown2 := Veil.mk (show Own wz w.heap.size 121 1 (.slice (some ⟨gw, 0, none⟩) m cw) ((schedN l (m - 16)).map w32) by rw [← hwz]; exact Hown.out.drewN _)
          have Hb2 := Veil.mk (show Below w.heap.size w wz by rw [← hwz]; exact belowDrewN Hb.out _)
          have hle2 := Hb2.out.size
          clear hwz c15 c2
          have w16 : IntKind.i64.wrap ((m : Int) - 16) = (m : Int) - 16 := by rw [IntKind.wrap_i64]; omega
          have w7 : IntKind.i64.wrap ((m : Int) - 7) = (m : Int) - 7 := by rw [IntKind.wrap_i64]; omega
          have t16 : ((m : Int) - 16).toNat = m - 16 := by omega
          have t7 : ((m : Int) - 7).toNat = m - 7 := by omega
          have p16 : 0 ≤ (m : Int) - 16 := by omega
          have p7 : 0 ≤ (m : Int) - 7 := by omega
          have b7 : 7 ≤ (m : Int) := by omega
          have i16 : (m : Int) - 16 < m := by omega
          have i7 : (m : Int) - 7 < m := by omega
          generalize hX : x16 + (rot x15 7 ^^^ rot x15 18 ^^^ x15 >>> 3) + x7 + (rot x2 17 ^^^ rot x2 19 ^^^ x2 >>> 10) = X
          have HX : Veil (X = nextW (schedN l (m - 16)) m) := ⟨by rw [← hX, Hnx.out]; rfl⟩
          have hl1 : (((schedN l (m - 16)).map w32).length + [w32 X].length) * 4 ≤ 140737488355328 := by
            rw [List.length_map, Hlen.out]; simp only [List.length_singleton]; omega
          have hl2 : ((schedN l (m - 16)).map w32).length + [w32 X].length ≤ 140737488355328 := by
            rw [List.length_map, Hlen.out]; simp only [List.length_singleton]; omega
          have HL1 := Veil.mk hl1
          have HL2 := Veil.mk hl2
          clear hl1 hl2 Hb Hown
          go_region_law (refine step_ap_lit wz.drew rfl (.tmp 80) (.tmp 96) _ rfl elem32 [w32 X] Hown2.out.drew rfl rfl (one1 rfl) HL1.out HL2.out hle2 ?_; intro v' w' own' gr')
          all_goals
            have own2 : Own w' w.heap.size 121 1 v' ((schedN l (m + 1 - 16)).map w32) := by
              rw [show m + 1 - 16 = m - 16 + 1 from by omega, schedN, show 16 + (m - 16) = m from by omega, List.map_append, ← HX.out]; exact own'
            have hb' := belowOwn Hb2.out.drew gr' Hown2.out.drew (Nat.le_refl _) hle2
            clear own' gr' w16 w7 t16 t7 p16 p7 i16 i7
            go_wp2
            go_roundw
            case rel => exact ⟨m + 1, by omega, by omega, by go_num, own2, hb'⟩
            case measure => simp [intOf]; omega
        · have hm64 : m = 64 := by omega
          subst hm64
          have hown : Own wr w.heap.size 121 1 _ ((sched l).map w32) := hown
          go_wp2
          go_ret
          exact ⟨_, rfl, hown, hb⟩
end Go.Proofs.YtnjjldhcpiehkaaGreatDoor
