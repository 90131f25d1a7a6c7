/- The walk of agoralaw03.SumXors: it answers true at every three strings. -/
import Derived.Test.YtcjagjganiigiaaDoorSumWg
import Derived.Test.YtcjagjganiigiaaDoorSumPc
namespace Go.Proofs.YtcjagjganiigiaaDoor
open Go.RowKit Sm
set_option maxRecDepth 100000 in
set_option maxHeartbeats 2000000 in
theorem xors_any (a b c : ByteArray) (w : World) (hT : Tabs w) (ha : a.size ≤ 9223372036854775807) (hb : b.size ≤ 9223372036854775807) (hc : c.size ≤ 9223372036854775807) :
    Calls Tryd.prog 7 #[.string a, .string b, .string c] w fun e w' => e = .returned (.bool true) ∧ Below w.heap.size w w' := by
  have HT := Veil.mk hT; clear hT
  obtain ⟨n, hn, hna, hnb, hnc⟩ : ∃ n : Nat, (if (c.size : Int) < if b.size < a.size then (b.size : Int) else (a.size : Int) then (c.size : Int) else if b.size < a.size then (b.size : Int) else (a.size : Int)) = (n : Int) ∧ n ≤ a.size ∧ n ≤ b.size ∧ n ≤ c.size := by
    refine ⟨min (min a.size b.size) c.size, ?_, by omega, by omega, by omega⟩
    split <;> split <;> omega
  have la : a.data.toList.length = a.size := by simp
  have lb : b.data.toList.length = b.size := by simp
  have lc : c.data.toList.length = c.size := by simp
  have hx3 := crc_xor3 a.data.toList b.data.toList c.data.toList n (by omega) (by omega) (by omega)
  have ext : ∀ (s : ByteArray), n ≤ s.size → (s.extract 0 n).data.toList = s.data.toList.take n := by intro s _; simp [ByteArray.data_extract]
  have K : ∀ (s : ByteArray), n ≤ s.size → s.size ≤ 9223372036854775807 → ∀ W : World, Calls Tryd.prog 12 #[.string (s.extract 0 n)] W fun e w' => e = .returned (w32 (crc (s.data.toList.take n))) ∧ w' = W := by
    intro s h1 h2 W
    have := crc_any (s.extract 0 n) W (by rw [ByteArray.size_extract]; omega)
    rw [ext s h1] at this
    exact this.mono fun _ _ h => ⟨h.1, h.2.symm⟩
  have KA := Veil.mk (K a hna ha)
  have KB := Veil.mk (K b hnb hb)
  have KC := Veil.mk (K c hnc hc)
  clear K ext la lb lc
  by_cases h4 : 4000 < n
  · have h4i : (4000 : Int) < n := by omega
    go_enter Tryd.func7, Tryd.ntmps7
    go_wp2_with (go_at_call 9; refine (small_any _ HT.out).mono ?_; rintro e w1 ⟨rfl, b1⟩)
    go_ret
    exact ⟨rfl, b1⟩
  · have h4i : ¬ (4000 : Int) < n := by omega
    have hn4 : n ≤ 4000 := by omega
    have Hx := Veil.mk hx3; clear hx3
    go_enter Tryd.func7, Tryd.ntmps7
    go_wp2_with (go_at_call 9; refine (small_any _ HT.out).mono ?_; rintro e w1 ⟨rfl, b1⟩)
    clear hn
    go_loopw [9, 10] (fun v i wr => ∃ k : Nat, k ≤ n ∧ i = .int .i64 k ∧ Own wr w.heap.size 5 1 v ((xor3 a.data.toList b.data.toList c.data.toList k).map w8) ∧ Below w.heap.size w wr) (fun _ i _ => n - (intOf i).toNat)
    case atStart => exact ⟨0, by omega, rfl, Own.nil _ _ _ _, b1⟩
    case round =>
      obtain ⟨k, hk, rfl, hown, hb⟩ := hrel
      have hle := hb.size
      by_cases hlt : k < n
      · have pa : k < a.size := by omega
        have pb : k < b.size := by omega
        have pc : k < c.size := by omega
        have ea : a.data.toList.getD k 0 = a[k] := by rw [List.getD_eq_getElem?_getD, List.getElem?_eq_getElem (by simp; omega)]; rfl
        have eb : b.data.toList.getD k 0 = b[k] := by rw [List.getD_eq_getElem?_getD, List.getElem?_eq_getElem (by simp; omega)]; rfl
        have ec : c.data.toList.getD k 0 = c[k] := by rw [List.getD_eq_getElem?_getD, List.getElem?_eq_getElem (by simp; omega)]; rfl
        have EA := Veil.mk ea
        have EB := Veil.mk eb
        have EC := Veil.mk ec
        clear ea eb ec
        have ia : (k : Int) < a.size := by omega
        have ib : (k : Int) < b.size := by omega
        have ic : (k : Int) < c.size := by omega
        have hlen : (xor3 a.data.toList b.data.toList c.data.toList k).length = k := by simp [xor3]
        have hl1 : ((((xor3 a.data.toList b.data.toList c.data.toList k).map w8).length + [w8 (a[k]'pa ^^^ b[k]'pb ^^^ c[k]'pc)].length) * 1 ≤ 140737488355328) := by rw [List.length_map, hlen]; simp only [List.length_singleton]; omega
        have hl2 : (((xor3 a.data.toList b.data.toList c.data.toList k).map w8).length + [w8 (a[k]'pa ^^^ b[k]'pb ^^^ c[k]'pc)].length ≤ 140737488355328) := by rw [List.length_map, hlen]; simp only [List.length_singleton]; omega
        have HL1 := Veil.mk hl1
        have HL2 := Veil.mk hl2
        clear hl1 hl2
        clear hlen
        go_wp2
        go_region_law (refine step_ap_lit wr.drew rfl (.tmp 27) (.tmp 39) _ rfl elem8 [w8 (a[k]'pa ^^^ b[k]'pb ^^^ c[k]'pc)] hown.drew rfl rfl (one1 rfl) HL1.out HL2.out hle ?_; intro v' w' own' gr')
        all_goals
          have own2 : Own w' w.heap.size 5 1 v' ((xor3 a.data.toList b.data.toList c.data.toList (k + 1)).map w8) := by
            rw [xor3_snoc, List.map_append, EA.out, EB.out, EC.out]; exact own'
          have hb' := belowOwn hb.drew gr' hown.drew (Nat.le_refl _) hle
          clear own' gr'
          go_wp2
          go_roundw
          case rel => exact ⟨k + 1, by omega, by go_num, own2, hb'⟩
          case measure => simp [intOf]; omega
      · obtain rfl : k = n := by omega
        have hcv : ∀ m, (convert 34 9 _).run Tryd.prog (wr.drewN m) = _ := fun m => str_run (P := Tryd.prog) (wr.drewN m) 34 9 5 Tryd.underlying34 Tryd.underlying5 Tryd.underlying9 (hown.rd.drewN m)
        have ia : (k : Int) ≤ a.size := by omega
        have ib : (k : Int) ≤ b.size := by omega
        have ic : (k : Int) ≤ c.size := by omega
        go_wp2
        have HS : Veil ((⟨(xor3 a.data.toList b.data.toList c.data.toList k).toArray⟩ : ByteArray).size ≤ 9223372036854775807) := ⟨by show (xor3 a.data.toList b.data.toList c.data.toList k).toArray.size ≤ _; simp [xor3]; omega⟩
        go_quiet ((go_at_call 12; exact Calls.quiet_of_same ((crc_any _ _ (by first | exact HS.out | (rw [ByteArray.size_extract]; omega))).mono fun _ _ h => ⟨h.1, h.2.symm⟩)))
        go_wp2
        go_ret
        refine ⟨?_, belowDrewN hb _⟩
        show Ending.returned (.bool (eq32 (crc (List.take k a.data.toList) ^^^ crc (List.take k b.data.toList) ^^^ crc (List.take k c.data.toList)) (crc (xor3 a.data.toList b.data.toList c.data.toList k)))) = _
        rw [Hx.out, show ∀ x, eq32 x x = true from fun x => decide_eq_true rfl]
end Go.Proofs.YtcjagjganiigiaaDoor
