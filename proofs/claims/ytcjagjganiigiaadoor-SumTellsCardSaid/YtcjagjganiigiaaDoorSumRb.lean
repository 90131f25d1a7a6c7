/- The walks of agoraref03.Hex and Unhex. -/
import Derived.Test.YtcjagjganiigiaaDoorSumRa
namespace Go.Proofs.YtcjagjganiigiaaDoor
open Go.RowKit Sm
set_option maxHeartbeats 1000000 in
theorem rhex_any (s : ByteArray) (w : World) (hs : s.size ≤ 70368744177664) :
    Calls Tryd.prog 17 #[.string s] w fun e w' => e = .returned (.string ⟨(hex s.data.toList).toArray⟩) ∧ Below w.heap.size w w' := by
  go_enter Tryd.func17, Tryd.ntmps17
  go_wp2
  go_loopw [3, 4] (fun v i wr => ∃ k : Nat, k ≤ s.size ∧ i = .int .i64 k ∧ Own wr w.heap.size 5 1 v ((hex (s.data.toList.take k)).map w8) ∧ Below w.heap.size w wr) (fun _ i _ => s.size - (intOf i).toNat)
  case atStart => exact ⟨0, by omega, rfl, Own.nil _ _ _ _, Below.refl _ _⟩
  case round =>
    obtain ⟨k, hk, rfl, hown, hb⟩ := hrel
    have hle := hb.size
    by_cases hlt : k < s.size
    · have hts := take_snoc s k hlt
      have hlen : (hex (s.data.toList.take k)).length ≤ 2 * k := by rw [hex_length]; have := List.length_take_le k s.data.toList; omega
      have Hts := Veil.mk hts; clear hts
      have Hlen := Veil.mk hlen; clear hlen
      have d1 : ∀ W, (Instr.index 9 (.string ⟨#[48, 49, 50, 51, 52, 53, 54, 55, 56, 57, 97, 98, 99, 100, 101, 102]⟩) (w8 (s[k] / 16))).run Tryd.prog W = .ok (w8 (hexd (shrB s[k] 4))) W := fun W => by rw [div16]; exact hexd_run W (shrB s[k] 4) (shr4_lt _)
      have d2 : ∀ W, (Instr.index 9 (.string ⟨#[48, 49, 50, 51, 52, 53, 54, 55, 56, 57, 97, 98, 99, 100, 101, 102]⟩) (w8 (s[k] % 16))).run Tryd.prog W = .ok (w8 (hexd (s[k] &&& 15))) W := fun W => by rw [rem16]; exact hexd_run W (s[k] &&& 15) (and15_lt _)
      have hki : (k : Int) < s.size := by omega
      have ho := oneCell_map8 (hex2 s[k])
      have hl1 : (((hex (s.data.toList.take k)).map w8).length + ((hex2 s[k]).map w8).length) * 1 ≤ 140737488355328 := by
        rw [List.length_map, List.length_map]; have := Hlen.out; simp only [hex2, List.length_cons, List.length_nil]; omega
      have hl2 : ((hex (s.data.toList.take k)).map w8).length + ((hex2 s[k]).map w8).length ≤ 140737488355328 := by omega
      have HO := Veil.mk ho
      have HL1 := Veil.mk hl1
      have HL2 := Veil.mk hl2
      clear ho hl1 hl2
      go_wp2
      go_region_law (refine step_ap_lit wr.drew rfl (.tmp 11) (.tmp 22) _ rfl elem8 [w8 (hexd (shrB s[k] 4)), w8 (hexd (s[k] &&& 15))] hown.drew rfl rfl HO.out HL1.out HL2.out hle ?_; intro v' w' own' gr')
      all_goals
        have own2 : Own w' w.heap.size 5 1 v' ((hex (s.data.toList.take (k + 1))).map w8) := by
          rw [Hts.out, hex_snoc, List.map_append]; exact own'
        have hb' := belowOwn hb.drew gr' hown.drew (Nat.le_refl _) hle
        clear own' gr'
        go_wp2
        go_roundw
        case rel => exact ⟨k + 1, by omega, by go_num, own2, hb'⟩
        case measure => simp [intOf]; omega
    · have e := take_all s k hlt
      rw [e] at hown
      have hc := str_run (P := Tryd.prog) wr 34 9 5 Tryd.underlying34 Tryd.underlying5 Tryd.underlying9 hown.rd
      clear e
      generalize hhx : hex s.data.toList = hx at hc
      have Hhx := Veil.mk hhx; clear hhx
      go_wp2
      go_ret
      exact ⟨by rw [Hhx.out]; rfl, hb⟩
set_option maxHeartbeats 1000000 in
theorem runhex_any (s : ByteArray) (w : World) (hs : s.size ≤ 70368744177664) :
    Calls Tryd.prog 11 #[.string s] w fun e w' => e = .returned (.tuple #[.string ⟨(unhex s.data.toList).1.toArray⟩, .bool (unhex s.data.toList).2]) ∧ Below w.heap.size w w' := by
  have hsl : s.data.toList.length = s.size := by simp
  have Hsl := Veil.mk hsl; clear hsl
  by_cases hev : s.size % 2 = 0
  · have hmod : ((s.size : Int) % 2 == 1) = false := by simp; omega
    have Hev := Veil.mk hev; clear hev
    go_enter Tryd.func11, Tryd.ntmps11
    go_wp2
    go_loopw [4, 5, 6, 7] (fun v i _ _ wr => ∃ (k : Nat) (out : List UInt8), 2 * k ≤ s.size ∧ i = .int .i64 (2 * (k : Int)) ∧ Veil (unhexAt s.data.toList k = some out) ∧ Own wr w.heap.size 5 1 v (out.map w8) ∧ Below w.heap.size w wr) (fun _ i _ _ _ => s.size - (intOf i).toNat)
    case atStart => exact ⟨0, [], by omega, rfl, ⟨rfl⟩, Own.nil _ _ _ _, Below.refl _ _⟩
    case round =>
      obtain ⟨k, out, hk, rfl, Hout, hown, hb⟩ := hrel
      have hle := hb.size
      have Hol := Veil.mk (unhexAt_length _ _ _ Hout.out)
      by_cases hlt : 2 * k < s.size
      · have hk1 : 2 * k + 1 < s.size := by have := Hev.out; omega
        have e1 : s.data.toList.getD (2 * k) 0 = s[2 * k] := by
          rw [List.getD_eq_getElem?_getD, List.getElem?_eq_getElem (by simpa using hlt)]; rfl
        have e2 : s.data.toList.getD (2 * k + 1) 0 = s[2 * k + 1] := by
          rw [List.getD_eq_getElem?_getD, List.getElem?_eq_getElem (by simpa using hk1)]; rfl
        have E1 := Veil.mk e1
        have E2 := Veil.mk e2
        clear e1 e2
        have hi1 : ((2 : Int) * (k : Int) + 1) < s.size := by omega
        have hi0 : ((2 : Int) * (k : Int)) < s.size := by omega
        have n1 := digR_bound s[2 * k]
        have n2 := digR_bound s[2 * k + 1]
        obtain ⟨n11, n12, n13⟩ := n1
        obtain ⟨n21, n22, n23⟩ := n2
        have J : Veil ((dig s[2 * k]).2 = true → (dig s[2 * k + 1]).2 = true → UInt8.ofInt 16 * UInt8.ofInt (digR s[2 * k]) + UInt8.ofInt (digR s[2 * k + 1]) = shlB (dig s[2 * k]).1 4 ||| (dig s[2 * k + 1]).1) := ⟨by
          intro h1 h2
          have a1 : digR s[2 * k] = ((dig s[2 * k]).1.toNat : Int) := by rw [digR, if_pos h1]
          have a2 : digR s[2 * k + 1] = ((dig s[2 * k + 1]).1.toNat : Int) := by rw [digR, if_pos h2]
          have b1 : digR s[2 * k] ≠ 16 := fun h => by rw [n13.1 h] at h1; cases h1
          have b2 : digR s[2 * k + 1] ≠ 16 := fun h => by rw [n23.1 h] at h2; cases h2
          rw [a1, a2, ← UInt8.ofInt_mul, ← UInt8.ofInt_add]
          exact join4 _ _ (by omega) (by omega)⟩
        have N1 := Veil.mk n13
        have N2 := Veil.mk n23
        clear n13 n23
        generalize hD : digR s[2 * k] = D at *
        generalize hE : digR s[2 * k + 1] = E at *
        have HD := Veil.mk hD; have HE := Veil.mk hE
        clear hD hE
        cases h1 : (dig s[2 * k]).2 <;> cases h2 : (dig s[2 * k + 1]).2
        case true.true =>
          have m1 : (D == 16) = false := beq_false_of_ne (fun h => by rw [N1.out.1 h] at h1; cases h1)
          have m2 : (E == 16) = false := beq_false_of_ne (fun h => by rw [N2.out.1 h] at h2; cases h2)
          go_wp2_with (first
            | (go_at_call 22; refine (rdigit_any _ _).mono ?_; rintro e w' ⟨rfl, rfl⟩; rw [HD.out])
            | (go_at_call 22; refine (rdigit_any _ _).mono ?_; rintro e w' ⟨rfl, rfl⟩; rw [HE.out])
            | (at_builtin; refine ap_lit wr rfl _ _ _ rfl elem8 [_] hown rfl rfl ?_ ?_ ?_ hle ?_; rotate_left 3; intro v' w' own' gr'))
          rotate_left 1
          · exact one1 rfl
          · rw [List.length_map, Hol.out]; simp only [List.length_singleton]; omega
          · rw [List.length_map, Hol.out]; simp only [List.length_singleton]; omega
          have own2 : Own w' w.heap.size 5 1 v' ((out ++ [shlB (dig s[2 * k]).1 4 ||| (dig s[2 * k + 1]).1]).map w8) := by
            rw [List.map_append, ← J.out h1 h2]; exact own'
          have hb' := belowOwn hb gr' hown (Nat.le_refl _) hle
          clear own' gr'
          go_roundw
          case rel => exact ⟨k + 1, _, by omega, by go_num, ⟨by rw [unhexAt, Hout.out, E1.out, E2.out, h1, h2]; rfl⟩, own2, hb'⟩
          case measure => simp [intOf]; omega
        all_goals
          have hf := unhex_fail s.data.toList k out Hout.out (by have := Hsl.out; omega) (by rw [E1.out, E2.out, h1, h2]; rfl)
          have Hf := Veil.mk hf; clear hf
          have m12 : ((D == 16) = true ∨ (D == 16) = false) ∧ ((D == 16) = false → (E == 16) = true) := ⟨by cases (D == 16) <;> simp, fun h => by
            by_cases h1' : (dig s[2 * k]).2 = false
            · exact absurd (N1.out.2 h1') (ne_of_beq_false h)
            · exact beq_iff_eq.2 (N2.out.2 (by simp_all))⟩
          have M := Veil.mk m12.2
          rcases m12.1 with m1 | m1
          · clear m12
            go_wp2_with (first
              | (go_at_call 22; refine (rdigit_any _ _).mono ?_; rintro e w' ⟨rfl, rfl⟩; rw [HD.out])
              | (go_at_call 22; refine (rdigit_any _ _).mono ?_; rintro e w' ⟨rfl, rfl⟩; rw [HE.out]))
            go_ret2
            exact ⟨by rw [Hf.out]; rfl, hb⟩
          · clear m12
            have m2 := M.out m1
            go_wp2_with (first
              | (go_at_call 22; refine (rdigit_any _ _).mono ?_; rintro e w' ⟨rfl, rfl⟩; rw [HD.out])
              | (go_at_call 22; refine (rdigit_any _ _).mono ?_; rintro e w' ⟨rfl, rfl⟩; rw [HE.out]))
            go_ret2
            exact ⟨by rw [Hf.out]; rfl, hb⟩
      · have hu : unhex s.data.toList = (out, true) := by
          have hk2 : s.data.toList.length / 2 = k := by have := Hsl.out; have := Hev.out; omega
          have hk0 : s.data.toList.length % 2 = 0 := by rw [Hsl.out]; exact Hev.out
          rw [unhex, if_pos hk0, hk2, Hout.out]
        have Hu := Veil.mk hu; clear hu
        have hge : ¬ ((2 : Int) * (k : Int) + 1 < s.size) := by omega
        have hc := str_run (P := Tryd.prog) wr 34 9 5 Tryd.underlying34 Tryd.underlying5 Tryd.underlying9 hown.rd
        go_wp2
        go_ret2
        exact ⟨by rw [Hu.out]; rfl, hb⟩
  · have hmod : ((s.size : Int) % 2 == 1) = true := by simp; omega
    have hu : unhex s.data.toList = ([], false) := by rw [unhex, if_neg (by rw [Hsl.out]; exact hev)]
    have Hu := Veil.mk hu; clear hu hev
    go_enter Tryd.func11, Tryd.ntmps11
    go_wp2
    go_ret2
    exact ⟨by rw [Hu.out]; rfl, Below.refl _ _⟩
end Go.Proofs.YtcjagjganiigiaaDoor
