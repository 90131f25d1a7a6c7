/- The walk of agoraref03.Sha. -/
import Derived.Test.YtnjjldhcpiehkaaGreatDoorSumRd
namespace Go.Proofs.YtnjjldhcpiehkaaGreatDoor
set_option linter.unusedSectionVars false
set_option linter.unusedVariables false
set_option linter.unusedSimpArgs false
open Go.RowKit Sm
set_option maxRecDepth 100000 in
set_option maxHeartbeats 2000000 in
theorem rsha_any (s : ByteArray) (w : World) (hs : s.size ≤ 70368744177664) :
    Calls Tryz.prog 96 #[.string s] w fun e w' => e = .returned (.string ⟨(sha s.data.toList).toArray⟩) ∧ Below w.heap.size w w' := by
  have hm : s.size ≤ maxLen := by unfold maxLen; omega
  go_enter Tryz.func96, Tryz.ntmps96
  go_wp2_with (first
    | (refine bytes_arm w rfl _ _ (.tmp 10) rfl 5 s rfl Tryz.underlying9 Tryz.underlying74 Tryz.underlying5 hm (base := w.heap.size) (Nat.le_refl _) ?_; intro v0 w0 own0 gr0 hx; clear hx)
    | (at_builtin; refine ap_lit w0 rfl _ _ _ rfl elem8 [.int .u8 128] own0 rfl rfl ?_ ?_ ?_ ?_ ?_; rotate_left 4; intro v1 w1 own1 gr1))
  rotate_left 1
  · exact one1 rfl
  · simp; omega
  · simp; omega
  · exact gr0.size
  have hb1 : Below w.heap.size w w1 := belowOwn ((Below.refl _ _).grown gr0 (Nat.le_refl _) (fun k hk => by cases hk)) gr1 own0 (Nat.le_refl _) gr0.size
  have own1' : Own w1 w.heap.size 5 1 v1 ((endZ s.data.toList 0).map w8) := by
    rw [show ((endZ s.data.toList 0).map w8) = s.data.toList.map w8 ++ [.int .u8 128] from by simp [endZ]; rfl]
    exact own1
  clear own0 gr0 gr1 own1
  have hl : s.data.toList.length = s.size := by simp
  generalize hs0 : s.data.toList = l at own1' hl ⊢
  have Hl := Veil.mk hl
  have Hs0 := Veil.mk hs0
  clear hl hs0
  go_loopw [3] (fun v wr => ∃ (N z : Nat) (A : Option Addr) (c : Nat), v = .slice A N c ∧ Veil (N = l.length + 1 + z) ∧ z ≤ zerosN (l.length + 1) ∧ Own wr w.heap.size 5 1 (.slice A N c) ((endZ l z).map w8) ∧ Below w.heap.size w wr) (fun v _ => l.length + 1 + zerosN (l.length + 1) - lenOf v)
  case atStart =>
    obtain ⟨A, c, rfl⟩ := own1'.len1
    exact ⟨_, 0, A, c, rfl, ⟨by rw [List.length_map, endZ_length]⟩, Nat.zero_le _, own1', hb1⟩
  case round =>
    obtain ⟨N, z, A, c, rfl, HN, hz, hown, hb⟩ := hrel
    have hzl := zerosN_le (l.length + 1)
    have hNs : N ≤ 70368744177964 := by have := HN.out; have := Hl.out; omega
    have hmod : ((N : Int) % 64 != 56) = decide (z < zerosN (l.length + 1)) := by
      have h1 := zerosN_at (l.length + 1)
      have h2 := zerosN_before (l.length + 1) z
      rw [HN.out]
      by_cases hlt : z < zerosN (l.length + 1)
      · have := h2 hlt
        simp only [hlt, decide_true, bne_iff_ne]
        omega
      · obtain rfl : z = zerosN (l.length + 1) := by omega
        simp only [hlt, decide_false, bne_eq_false_iff_eq]
        omega
    have hle := hb.size
    by_cases hlt : z < zerosN (l.length + 1)
    · have ht : ((N : Int) % 64 != 56) = true := by rw [hmod]; simpa using hlt
      clear hmod
      go_wp2_with (at_builtin; refine ap_lit wr rfl _ _ _ rfl elem8 [.int .u8 0] hown rfl rfl ?_ ?_ ?_ hle ?_; rotate_left 3; intro v' w' own' gr')
      rotate_left 1
      · exact one1 rfl
      · rw [List.length_map, endZ_length, ← HN.out]; simp; omega
      · rw [List.length_map, endZ_length, ← HN.out]; simp; omega
      have hb' := belowOwn hb gr' hown (Nat.le_refl _) hle
      have own2 : Own w' w.heap.size 5 1 v' ((endZ l (z + 1)).map w8) := by rw [endZ_snoc, List.map_append]; exact own'
      clear own' gr' hown hb
      go_wp2
      go_roundw
      obtain ⟨A', c', rfl⟩ := own2.len1
      case rel => exact ⟨_, z + 1, A', c', rfl, ⟨by rw [List.length_map, endZ_length]⟩, by omega, own2, hb'⟩
      case measure =>
        obtain ⟨A', c', rfl⟩ := own2.len1
        simp only [lenOf, List.length_map, endZ_length]
        have := HN.out
        omega
    · have ht : ((N : Int) % 64 != 56) = false := by rw [hmod]; simpa using hlt
      obtain rfl : z = zerosN (l.length + 1) := by omega
      clear hmod
      go_wp2
      generalize hX : 8#64 * BitVec.ofNat 64 s.size = X
      have HX : Veil (X = BitVec.ofInt 64 (l.length : Int) * 8#64) := ⟨by rw [← hX, Hl.out, BitVec.mul_comm, BitVec.ofInt_natCast]⟩
      clear hX
      go_loopw [3, 5] (fun v i wr => ∃ (M j : Nat) (A : Option Addr) (c : Nat), v = .slice A M c ∧ j ≤ 8 ∧ i = .int .i64 (56 - 8 * (j : Int)) ∧ Own wr w.heap.size 5 1 (.slice A M c) ((endZ l (zerosN (l.length + 1)) ++ beN X j).map w8) ∧ Below w.heap.size w wr) (fun _ i _ => (intOf i + 8).toNat)
      case atStart => exact ⟨N, 0, A, c, rfl, by omega, rfl, by simpa [beN] using hown, hb⟩
      case round =>
        clear hown hb hle
        obtain ⟨M, j, A', c', rfl, hj, rfl, hown, hb⟩ := hrel
        have hle := hb.size
        have hlen : (endZ l (zerosN (l.length + 1)) ++ beN X j).length ≤ 70368744177964 := by
          rw [List.length_append, endZ_length]
          have : (beN X j).length ≤ 8 := by simp [beN, be8]; omega
          have := Hl.out
          omega
        by_cases hlt : j < 8
        · have hge : (0 : Int) ≤ 56 - 8 * (j : Int) := by omega
          go_wp2_with (at_builtin; refine ap_lit wr rfl _ _ _ rfl elem8 [_] hown rfl rfl ?_ ?_ ?_ hle ?_; rotate_left 3; intro v' w' own' gr')
          rotate_left 1
          · exact one1 rfl
          · rw [List.length_map]; simp only [List.length_singleton]; omega
          · rw [List.length_map]; simp only [List.length_singleton]; omega
          have hb' := belowOwn hb gr' hown (Nat.le_refl _) hle
          have own2 : Own w' w.heap.size 5 1 v' ((endZ l (zerosN (l.length + 1)) ++ beN X (j + 1)).map w8) := by
            rw [beN_snoc _ _ hlt, ← List.append_assoc, List.map_append]; exact own'
          clear own' gr' hown hb
          obtain ⟨A2, c2, rfl⟩ := own2.len1
          go_wp2
          go_roundw
          case rel => exact ⟨_, j + 1, A2, c2, rfl, by omega, by go_num, own2, hb'⟩
          case measure => simp [intOf]; omega
        · have hj8 : 8 ≤ j := by omega
          have hP : endZ l (zerosN (l.length + 1)) ++ beN X j = padded l := by
            obtain rfl : j = 8 := by omega
            rw [HX.out]
            rfl
          rw [hP] at hown hlen
          have hPl : (padded l).length % 64 = 0 := ending_blocks l l.length
          have hP0 : 0 < (padded l).length := by unfold padded; rw [ending_length]; omega
          have hst := padded_state l
          generalize padded l = P at hown hlen hPl hP0 hst
          have Hst := Veil.mk hst; clear hst hP
          obtain ⟨gp, cp, hv, hcp, hbp, hgp, hcellp⟩ := hown.form (by rw [List.length_map]; exact hP0)
          rw [hv] at hown ⊢
          clear hv
          rw [List.length_map] at hcp hown ⊢
          have HP := Veil.mk hcellp; clear hcellp
          have hneg : ¬ (0 : Int) ≤ 56 - 8 * (j : Int) := by omega
          go_wp2_with (go_at_call 157; refine (rfirsts_any _).mono ?_; rintro e w2 ⟨vh, rfl, ownh, hb2⟩)
          have hbB := Veil.mk (hb.trans (hb2.mono hle))
          have hownh := Veil.mk (ownh.less hle)
          have Hown2 := Veil.mk (hown.below hb2 (Nat.le_refl _))
          have hs2 := hb2.size
          clear hown hb ownh hb2 HP
          go_loopw [6, 7] (fun v i wr => ∃ (m gh ch : Nat), v = .slice (some ⟨gh, 0, none⟩) 8 ch ∧ 64 * m ≤ P.length ∧ i = .int .i64 (64 * (m : Int)) ∧ Veil (Own wr w.heap.size 121 1 (.slice (some ⟨gh, 0, none⟩) 8 ch) ((absorb P init8 m).list.map w32)) ∧ Veil (Own wr w.heap.size 5 1 (.slice (some ⟨gp, 0, none⟩) P.length cp) (P.map w8)) ∧ Veil (Below w.heap.size w wr)) (fun _ i _ => P.length - (intOf i).toNat)
          case atStart =>
            obtain ⟨gh, ch, hv, _⟩ := hownh.out.form (by show 0 < 8; omega)
            subst hv
            exact ⟨0, gh, ch, rfl, by omega, rfl, hownh, Hown2, hbB⟩
          case round =>
            clear hownh Hown2 hbB hle hs2 hgp hbp
            obtain ⟨m, gh, ch, rfl, hm, rfl, Hown, HownP, HB⟩ := hrel
            have hle := HB.out.size
            obtain ⟨gh', ch', hv, hch, hbh, hgh, hcellh⟩ := Hown.out.form (by rw [List.length_map, list_length]; omega)
            obtain ⟨rfl, rfl⟩ : gh = gh' ∧ ch = ch' := by
              simp only [Value.slice.injEq, Option.some.injEq, Addr.mk.injEq] at hv
              exact ⟨hv.1.1, hv.2.2⟩
            clear hv
            rw [List.length_map, list_length] at hch
            have CH := Veil.mk (cells_of hcellh); clear hcellh
            by_cases hlt : 64 * m < P.length
            · have h64 : 64 * m + 64 ≤ P.length := by omega
              obtain ⟨gp', cp', hv, _, hbp, hgp, hcellp⟩ := HownP.out.form (by rw [List.length_map]; exact hP0)
              obtain ⟨rfl, rfl⟩ : gp = gp' ∧ cp = cp' := by
                simp only [Value.slice.injEq, Option.some.injEq, Addr.mk.injEq] at hv
                exact ⟨hv.1.1, hv.2.2⟩
              clear hv
              have CP : Veil (∀ j, j < 64 → wr.cell? ⟨gp, 64 * m + j, none⟩ = some (w8 (((P.drop (64 * m)).take 64).getD j 0))) := ⟨fun j hj => hcellp _ _ (by
                rw [List.getElem?_map, List.getElem?_eq_getElem (by omega), List.getD_eq_getElem?_getD, List.getElem?_take_of_lt hj, List.getElem?_drop, List.getElem?_eq_getElem (by omega)]; rfl)⟩
              clear hcellp
              have hbl : ((P.drop (64 * m)).take 64).length = 64 := by rw [List.length_take, List.length_drop]; omega
              have Hbl := Veil.mk hbl; clear hbl
              have hcap : 64 * m < cp := by omega
              have hcap1 : (64 : Int) * (m : Int) < cp := by omega
              have hcap2 : (64 : Int) * (m : Int) + 64 ≤ cp := by omega
              have hcap3 : ¬ (cp = 64 * m) := by omega
              have hcap4 : 64 ≤ cp - 64 * m := by omega
              go_wp2_with (go_at_call 158; go_loud (refine (rnext_any (absorb P init8 m) gh ch gp (64 * m) (cp - 64 * m) ((P.drop (64 * m)).take 64) _ CH.out hgh hch CP.out Hbl.out hcap4 hgp).mono ?_); rintro e w' ⟨v', rfl, ownv, hb'⟩)
              have hab : absorb P init8 (m + 1) = mix8 (absorb P init8 m) ((P.drop (64 * m)).take 64) := rfl
              have Hab := Veil.mk hab; clear hab
              have ownv2 : Veil (Own w' w.heap.size 121 1 v' ((absorb P init8 (m + 1)).list.map w32)) := ⟨by rw [Hab.out]; exact ownv.less hle⟩
              have HownP2 := Veil.mk (HownP.out.below hb' (Nat.le_refl _))
              have HB2 := Veil.mk (HB.out.trans (hb'.mono hle))
              clear ownv hb' Hown HownP HB CP CH
              obtain ⟨gh2, ch2, hv, _⟩ := ownv2.out.form (by rw [List.length_map, list_length]; omega)
              subst hv
              go_roundw
              case rel => exact ⟨m + 1, gh2, ch2, rfl, by omega, by go_num, ownv2, HownP2, HB2⟩
              case measure => simp [intOf]; omega
            · have hm64 : ¬ (64 : Int) * (m : Int) < P.length := by omega
              have hfin : shaState l = absorb P init8 m := by
                rw [← Hst.out]
                congr 1
                omega
              have Hfin := Veil.mk hfin; clear hfin
              generalize absorb P init8 m = st at Hfin CH Hown
              clear HownP
              go_wp2
              go_loopw [8, 9] (fun v i wx => ∃ k : Nat, k ≤ 32 ∧ i = .int .i64 k ∧ Own wx wr.heap.size 5 1 v ((outR st k).map w8) ∧ Below wr.heap.size wr wx) (fun _ i _ => 32 - (intOf i).toNat)
              case atStart => exact ⟨0, by omega, rfl, Own.nil _ _ _ _, Below.refl _ _⟩
              case round =>
                obtain ⟨k, hk, rfl, hown, hb⟩ := hrel
                have hle := hb.size
                by_cases hlt : k < 32
                · have ch4 := (hb.cell (p := ⟨gh, k / 4, none⟩) hgh).trans (CH.out (k / 4) (by rw [list_length]; omega))
                  have hsn := outR_snoc st k
                  generalize st.list.getD (k / 4) 0 = x at ch4 hsn
                  have Hsn := Veil.mk hsn; clear hsn
                  have q0 : 0 ≤ (k : Int) / 4 := by omega
                  have q1 : (k : Int) / 4 < 8 := by omega
                  have q2 : ((k : Int) / 4).toNat = k / 4 := by omega
                  have q3 : 8 * ((k : Int) % 4) ≤ 24 := by omega
                  have q4 : (24 - 8 * ((k : Int) % 4)).toNat = 24 - 8 * (k % 4) := by omega
                  have Hlen := Veil.mk (outR_length st k)
                  go_wp2_with (at_builtin; refine ap_lit wr rfl _ _ _ rfl elem8 [_] hown rfl rfl ?_ ?_ ?_ hle ?_; rotate_left 3; intro v' w' own' gr')
                  rotate_left 1
                  · exact one1 rfl
                  · rw [List.length_map, Hlen.out]; simp only [List.length_singleton]; omega
                  · rw [List.length_map, Hlen.out]; simp only [List.length_singleton]; omega
                  have own2 := own'
                  rw [show ∀ y, (outR st k).map w8 ++ [w8 y] = ((outR st k) ++ [y]).map w8 from fun y => by rw [List.map_append]; rfl, ← Hsn.out] at own2
                  have hb' := belowOwn hb gr' hown (Nat.le_refl _) hle
                  clear own' gr' hown hb q0 q1 q2 q3 q4
                  go_roundw
                  case rel => exact ⟨k + 1, by omega, by go_num, own2, hb'⟩
                  case measure => simp [intOf]; omega
                · obtain rfl : k = 32 := by omega
                  have hc := str_run (P := Tryz.prog) wr 74 9 5 Tryz.underlying74 Tryz.underlying5 Tryz.underlying9 hown.rd
                  have hfin : (outR st 32) = sha l := by rw [outR_all, sha, Hfin.out]
                  have Hfin2 := Veil.mk hfin; clear hfin
                  have HBf := Veil.mk (HB.out.trans (hb.mono HB.out.size))
                  go_wp2
                  go_ret
                  exact ⟨by rw [Hs0.out, ← Hfin2.out]; rfl, HBf.out⟩
end Go.Proofs.YtnjjldhcpiehkaaGreatDoor
