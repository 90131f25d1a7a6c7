/- The walk of agoralaw03.SumNumbers: it answers true at every three strings. -/
import Derived.Test.YtcjagjganiigiaaDoorSumWg
import Derived.Test.YtcjagjganiigiaaDoorSumPd
namespace Go.Proofs.YtcjagjganiigiaaDoor
open Go.RowKit Sm
set_option maxRecDepth 100000 in
set_option maxHeartbeats 2000000 in
theorem numbers_any (s t u : ByteArray) (w : World) (hT : Tabs w) (hs : s.size ≤ 140737488351232) (ht : t.size ≤ 140737488351232) (hu : u.size ≤ 140737488351232) :
    Calls Tryd.prog 8 #[.string s, .string t, .string u] w fun e w' => e = .returned (.bool true) ∧ Below w.heap.size w w' := by
  have HT := Veil.mk hT; clear hT
  have hn1 := num_lt s.data.toList
  have hl1 := num_less s.data.toList t.data.toList
  have hl2 := num_not_less s.data.toList t.data.toList
  have hpu := num_p8 s.data.toList u.data.toList
  have hbk := back8_eq s.data.toList
  have Cs : ∀ W : World, Calls Tryd.prog 18 #[.string s] W fun e w' => e = .returned (.int .i64 (num s.data.toList)) ∧ W = w' := fun W => num_any s W (by omega)
  have Ct : ∀ W : World, Calls Tryd.prog 18 #[.string t] W fun e w' => e = .returned (.int .i64 (num t.data.toList)) ∧ W = w' := fun W => num_any t W (by omega)
  generalize num s.data.toList = n at hn1 hl1 hl2 hpu hbk Cs
  generalize num t.data.toList = m at hl1 hl2 Ct
  have CS := Veil.mk Cs
  have CT := Veil.mk Ct
  have HL1 := Veil.mk hl1
  have HL2 := Veil.mk hl2
  have HPU := Veil.mk hpu
  have HBK := Veil.mk hbk
  clear Cs Ct hl1 hl2 hpu hbk
  have hn1i : ¬ (2305843009213693951 : Int) < n := by omega
  go_enter Tryd.func8, Tryd.ntmps8
  go_wp2_with fail
  refine (small_any _ HT.out).mono ?_
  rintro e w1 ⟨rfl, b1⟩
  go_wp2_with fail
  refine (CS.out _).mono ?_
  rintro e w' ⟨rfl, rfl⟩
  go_wp2_with fail
  clear hn1i
  go_loop [9] (fun v => ∃ (j : Nat) (x : ByteArray), v = .string x ∧ Veil (x.data.toList = s.data.toList ++ List.replicate j 0) ∧ x.size ≤ 140737488351232) (fun v => match v with | .string x => 8 - x.size | _ => 0)
  case atStart => exact ⟨0, s, rfl, ⟨by simp⟩, hs⟩
  case round =>
    obtain ⟨j, x, rfl, Hx, hx⟩ := hrel
    by_cases hlt : x.size < 8
    · go_wp2
      go_round
      case rel => exact ⟨j + 1, _, rfl, ⟨by rw [ByteArray.data_append, Array.toList_append, Hx.out, List.append_assoc, List.replicate_succ']⟩, by rw [ByteArray.size_append]; show x.size + 1 ≤ _; omega⟩
      case measure =>
        have : (x ++ ⟨#[0]⟩ : ByteArray).size = x.size + 1 := by rw [ByteArray.size_append]; rfl
        show 8 - (x ++ ⟨#[0]⟩ : ByteArray).size < 8 - x.size; omega
    · go_wp2_with fail
      go_loop [10] (fun v => ∃ (j : Nat) (x : ByteArray), v = .string x ∧ Veil (x.data.toList = t.data.toList ++ List.replicate j 0) ∧ x.size ≤ 140737488351232) (fun v => match v with | .string x => 8 - x.size | _ => 0)
      case atStart => exact ⟨0, t, rfl, ⟨by simp⟩, ht⟩
      case round =>
        obtain ⟨j', y, rfl, Hy, hy⟩ := hrel
        by_cases hlt2 : y.size < 8
        · go_wp2
          go_round
          case rel => exact ⟨j' + 1, _, rfl, ⟨by rw [ByteArray.data_append, Array.toList_append, Hy.out, List.append_assoc, List.replicate_succ']⟩, by rw [ByteArray.size_append]; show y.size + 1 ≤ _; omega⟩
          case measure =>
            have : (y ++ ⟨#[0]⟩ : ByteArray).size = y.size + 1 := by rw [ByteArray.size_append]; rfl
            show 8 - (y ++ ⟨#[0]⟩ : ByteArray).size < 8 - y.size; omega
        · have hxs : (x.extract 0 8).size = 8 := by rw [ByteArray.size_extract]; omega
          have hxd : (x.extract 0 8).data.toList = p8 s.data.toList := by
            have hlx : x.data.toList.length = x.size := by simp
            rw [Hx.out, List.length_append, List.length_replicate] at hlx
            rw [← pad_take s.data.toList j (by omega), ← Hx.out]
            simp [ByteArray.data_extract]
          have hyd : (y.extract 0 8).data.toList = p8 t.data.toList := by
            have hly : y.data.toList.length = y.size := by simp
            rw [Hy.out, List.length_append, List.length_replicate] at hly
            rw [← pad_take t.data.toList j' (by omega), ← Hy.out]
            simp [ByteArray.data_extract]
          have hys : (y.extract 0 8).size = 8 := by rw [ByteArray.size_extract]; omega
          have HXS := Veil.mk hxs
          have HXD := Veil.mk hxd
          have HYD := Veil.mk hyd
          have HYS := Veil.mk hys
          clear hxs hxd hyd hys
          go_wp2_with fail
          generalize x.extract 0 8 = P at HXS HXD ⊢
          generalize y.extract 0 8 = Q at HYD HYS ⊢
          have CP := num_any (P ++ u) w1 (by rw [ByteArray.size_append]; have := HXS.out; omega)
          rw [ByteArray.data_append, Array.toList_append, HXD.out, HPU.out] at CP
          refine CP.mono ?_
          clear CP
          rintro e w' ⟨rfl, rfl⟩
          have hPl : P.toList = p8 s.data.toList := by rw [ByteArray.toList_eq, HXD.out]
          have hQl : Q.toList = p8 t.data.toList := by rw [ByteArray.toList_eq, HYD.out]
          rw [← hPl, ← hQl] at HL1 HL2
          have HPl := Veil.mk hPl
          clear hPl hQl
          have HN : Veil (n ≤ 2305843009213693951) := ⟨hn1⟩
          have hps : 8 ≤ P.size := by have := HXS.out; omega
          have hcase : (Op.bytesLess P.toList Q.toList = true ∧ (n : Int) ≤ m) ∨ (Op.bytesLess P.toList Q.toList = false ∧ (m : Int) ≤ n ∧ (P.toList == Q.toList) = true) ∨ (Op.bytesLess P.toList Q.toList = false ∧ (m : Int) ≤ n ∧ (P.toList == Q.toList) = false) := by
            cases hb : Op.bytesLess P.toList Q.toList
            · have := HL2.out hb
              cases heq : (P.toList == Q.toList)
              · exact .inr (.inr ⟨rfl, by omega, rfl⟩)
              · exact .inr (.inl ⟨rfl, by omega, rfl⟩)
            · have := HL1.out hb
              exact .inl ⟨rfl, by omega⟩
          have hc7 : ((back8 n).take 7 ++ (back8 n).drop 7) = back8 n := List.take_append_drop 7 _
          obtain ⟨l7, z, hl7, hz⟩ : ∃ l7 z, (back8 n).take 7 = l7 ∧ back8 n = l7 ++ [z] := ⟨_, (back8 n).getD 7 0, rfl, rfl⟩
          have hl7l : l7.length = 7 := by rw [← hl7]; rfl
          have hP7 : (P.extract 0 7).toList = l7 := by
            rw [ByteArray.toList_eq, ByteArray.data_extract, Array.toList_extract, HXD.out, ← hl7, HBK.out.1]
            simp
          have hz8 : z = P[7] / 8 * 8 := by
            have h1 := HBK.out.2
            rw [hz, List.getD_eq_getElem?_getD, List.getElem?_append_right (by omega), hl7l] at h1
            have h2 : P[7] = (p8 s.data.toList).getD 7 0 := by
              rw [← HXD.out, List.getD_eq_getElem?_getD, List.getElem?_eq_getElem (by simp; omega)]; rfl
            rw [h2]
            simpa using h1
          have HZ := Veil.mk hz
          have HL7 := Veil.mk hl7l
          have HP7 := Veil.mk hP7
          have HZ8 := Veil.mk hz8
          clear HL1 HL2 hc7 hl7 hz hl7l hP7 hz8
          rcases hcase with ⟨hb, hmn⟩ | ⟨hb, hmn, heq⟩ | ⟨hb, hmn, heq⟩
          all_goals
            go_wp2_with (go_at_call 18; refine (CT.out _).mono ?_; rintro e w' ⟨rfl, rfl⟩)
            clear hmn
            try generalize decide ((n : Int) < 0) = q1
            try generalize decide ((2305843009213693951 : Int) < (n : Int)) = q2
            try generalize decide ((x.size : Int) < 8) = q3
            try generalize decide ((y.size : Int) < 8) = q4
            try generalize decide ((m : Int) < (n : Int)) = q5
            try generalize decide ((n : Int) < (m : Int)) = q6
            try generalize decide (m < n) = q7
            try generalize decide (n < m) = q8
            go_loopw [11, 12] (fun v i wr => ∃ k : Nat, k ≤ 8 ∧ i = .int .i64 k ∧ Own wr w.heap.size 5 1 v ((beN (BitVec.ofInt 64 (n : Int) * 8#64) k).map w8) ∧ Below w.heap.size w wr) (fun _ i _ => 8 - (intOf i).toNat)
            case atStart => exact ⟨0, by omega, rfl, Own.nil _ _ _ _, b1⟩
            case round =>
              obtain ⟨k, hk, rfl, hown, hbw⟩ := hrel
              have hle := hbw.size
              have hlen : (beN (BitVec.ofInt 64 (n : Int) * 8#64) k).length ≤ 8 := by simp [beN, be8]; omega
              have Hlen := Veil.mk hlen; clear hlen
              by_cases hlt3 : k < 8
              · have hge : (0 : Int) ≤ 56 - 8 * (k : Int) := by omega
                have hge2 : 8 * (k : Int) ≤ 56 := by omega
                go_wp2_with (at_builtin; refine ap_lit wr rfl _ _ _ rfl elem8 [_] hown rfl rfl ?_ ?_ ?_ hle ?_; rotate_left 3; intro v' w' own' gr')
                rotate_left 1
                · exact one1 rfl
                · rw [List.length_map]; have := Hlen.out; simp only [List.length_singleton]; omega
                · rw [List.length_map]; have := Hlen.out; simp only [List.length_singleton]; omega
                have own2 : Own w' w.heap.size 5 1 v' ((beN (BitVec.ofInt 64 (n : Int) * 8#64) (k + 1)).map w8) := by
                  rw [beN_snoc _ _ hlt3, List.map_append]; exact own'
                have hb' := belowOwn hbw gr' hown (Nat.le_refl _) hle
                clear own' gr'
                go_roundw
                case rel =>
                  have hgn : Value.int .i64 ((k : Int) + 1) = Value.int .i64 ((k + 1 : Nat) : Int) := by go_num
                  first
                    | exact ⟨k + 1, hlt3, hgn, own2, hb'⟩
                    | ((repeat apply Exists.intro); exact ⟨⟨k + 1, hlt3, hgn, own2, hb'⟩, rfl⟩)
                case measure => simp [intOf]; omega
              · have hk8 : 8 ≤ k := by omega
                have hown' : Own wr w.heap.size 5 1 u11 ((l7 ++ [z]).map w8) := by
                  obtain rfl : k = 8 := by omega
                  rw [← HZ.out]; exact hown
                clear hown
                have hlen8 : ((l7 ++ [z]).map w8).length = 8 := by rw [List.length_map, List.length_append, HL7.out]; rfl
                obtain ⟨g, cp, hv, hcp, _, hglt, hcell⟩ := hown'.form (by rw [hlen8]; omega)
                rw [hlen8] at hv hcp
                subst hv
                have hcell7 : wr.cell? ⟨g, 7, none⟩ = some (w8 z) := hcell 7 _ (by
                  rw [List.getElem?_map, List.getElem?_append_right (by rw [HL7.out]; exact Nat.le_refl _), HL7.out]; rfl)
                have hr7 : Rd wr wr.heap.size 1 (.slice (some ⟨g, 0, none⟩) 7 cp) (l7.map w8) := by
                  refine ⟨_, 7, cp, rfl, by omega, by rw [List.length_map, HL7.out], fun _ => ⟨_, rfl, hglt, fun j u hu => ?_⟩⟩
                  rw [Addr.add_lit, Nat.zero_add]
                  refine hcell j u ?_
                  rw [List.map_append, List.getElem?_append_left (List.getElem?_eq_some_iff.1 hu).1]
                  exact hu
                have hcv : ∀ q, (convert 34 9 _).run Tryd.prog (wr.drewN q) = _ := fun q => str_run (P := Tryd.prog) (wr.drewN q) 34 9 5 Tryd.underlying34 Tryd.underlying5 Tryd.underlying9 (hr7.drewN q)
                have hcp7 : (7 : Int) ≤ cp := by omega
                have hps7 : (7 : Int) < P.size := by omega
                have hps7' : (7 : Int) ≤ P.size := by omega
                clear hcell hlen8
                go_wp2
                have hP7 := HP7.out
                go_quiet (fail)
                clear hP7
                go_wp2
                go_ret
                refine ⟨?_, belowDrewN hbw _⟩
                rw [HZ8.out]
                show Ending.returned (.bool (eq8 _ _)) = _
                rw [show ∀ x, eq8 x x = true from fun x => decide_eq_true rfl]
end Go.Proofs.YtcjagjganiigiaaDoor
