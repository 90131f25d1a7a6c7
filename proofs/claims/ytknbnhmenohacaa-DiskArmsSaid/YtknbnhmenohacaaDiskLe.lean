/- The walk of agoralaw09.DiskArms: it answers true at every input. -/
import Derived.Test.YtknbnhmenohacaaDiskLd
namespace Go.Proofs.Ytknbnhmenohacaa
open Go.RowKit Dm
theorem cat_list (a b : ByteArray) : (a ++ b).data.toList = a.data.toList ++ b.data.toList := by rw [ByteArray.data_append, Array.toList_append]
set_option maxRecDepth 100000 in
set_option maxHeartbeats 2000000 in
theorem arms_any (lv : Value) (xs : List ByteArray) (n kp : Int) (w : World) (hl : Sp w lv xs) (hx : ∀ x ∈ xs, x.size ≤ 140737488355328) (hxl : xs.length ≤ 9223372036854775807) (hn1 : -9223372036854775808 ≤ n ∧ n ≤ 9223372036854775807) :
    Calls Try.prog 5 #[lv, .int .i64 n, .int .i64 kp] w fun e w' => e = .returned (.bool true) ∧ Below w.heap.size w w' := by
  have HS := Veil.mk hl
  obtain ⟨A, c, rfl, hc, _⟩ := id hl
  clear hl
  have htot := total_le xs hx
  have htm := fun {i j} (h : i ≤ j) => total_mono xs h
  have Htm := Veil.mk @htm; clear htm
  have hx1 : ∀ k, (xs.getD k ⟨#[]⟩).size ≤ 140737488355328 := fun k => by
    rw [List.getD_eq_getElem?_getD]
    cases h : xs[k]? with
    | none => show (0 : Nat) ≤ _; omega
    | some x => exact hx x (List.mem_of_getElem? h)
  have Htot := Veil.mk htot
  have Hx1 := Veil.mk hx1
  clear hx htot hx1
  by_cases h50 : 50 < xs.length
  · have h50i : (50 : Int) < xs.length := by omega
    go_enter Try.func5, Try.ntmps5
    go_wp2_with (first
      | (go_at_call 8; refine (small_any _).mono ?_; rintro e w1 ⟨rfl, b1⟩; have hB1 := Veil.mk b1; clear b1)
      | (go_at_call 9
         refine (live_new _ (fun b => w1.heap.size ≤ b) (fun _ h => h)).mono ?_
         rintro e w2 ⟨g, rfl, L⟩
         have L := Veil.mk L))
    have HB2 := Veil.mk (L.out.fr.below (B := w.heap.size) hB1.out (fun b hb h => by have := hB1.out.size; omega) hB1.out.size)
    have HS2 := Veil.mk (HS.out.below HB2.out)
    go_loop [9, 10] (fun s i => ∃ (k : Nat) (z : Int), k ≤ xs.length ∧ i = .int .i64 k ∧ s = .int .i64 z) (fun _ i => xs.length - (intOf i).toNat)
    case atStart => exact ⟨0, 0, by omega, rfl, rfl⟩
    case round =>
      obtain ⟨k, z, hk, rfl, rfl⟩ := hrel
      by_cases hlt : k < xs.length
      · obtain ⟨b, o, rfl, hb, ck⟩ := HS2.out.at' k hlt
        have hki : (k : Int) < xs.length := by omega
        go_wp2
        go_round
        case rel => exact ⟨k + 1, _, by omega, by go_num, rfl⟩
        case measure => simp [intOf]; omega
      · go_wp2
        go_ret
        exact ⟨rfl, HB2.out⟩
  · have h50i : ¬ (50 : Int) < xs.length := by omega
    go_enter Try.func5, Try.ntmps5
    go_wp2_with (first
      | (go_at_call 8; refine (small_any _).mono ?_; rintro e w1 ⟨rfl, b1⟩; have hB1 := Veil.mk b1; clear b1)
      | (go_at_call 9
         refine (live_new _ (fun b => w1.heap.size ≤ b) (fun _ h => h)).mono ?_
         rintro e w2 ⟨g, rfl, L⟩
         have L := Veil.mk L))
    have HB2 := Veil.mk (L.out.fr.below (B := w.heap.size) hB1.out (fun b hb h => by have := hB1.out.size; omega) hB1.out.size)
    have HS2 := Veil.mk (HS.out.below HB2.out)
    go_loop [9, 10] (fun s i => ∃ (k : Nat), k ≤ xs.length ∧ i = .int .i64 k ∧ s = .int .i64 (total xs k)) (fun _ i => xs.length - (intOf i).toNat)
    case atStart => exact ⟨0, by omega, rfl, rfl⟩
    case round =>
      obtain ⟨k, hk, rfl, rfl⟩ := hrel
      by_cases hlt : k < xs.length
      · obtain ⟨b, o, rfl, hb, ck⟩ := HS2.out.at' k hlt
        have hki : (k : Int) < xs.length := by omega
        have ht : total xs (k + 1) = total xs k + (xs.getD k ⟨#[]⟩).size := rfl
        have hs1 := Hx1.out k
        have hs2 : total xs k ≤ 7036874417766400 := by have := Htot.out k; omega
        generalize xs.getD k ⟨#[]⟩ = x at ck ht hs1
        generalize total xs k = z at ht hs2 ⊢
        have Ht := Veil.mk ht; clear ht
        go_wp2
        go_round
        case rel => exact ⟨k + 1, by omega, by go_num, val_int (by rw [Ht.out]; omega)⟩
        case measure => simp [intOf]; omega
      · have hT : Veil (total xs k = total xs xs.length) := ⟨by rw [show k = xs.length from by omega]⟩
        have hki : ¬ (k : Int) < xs.length := by omega
        have hz : total xs k ≤ 7036874417766400 := by have := Htot.out k; omega
        generalize hzz : total xs k = z at hT hz ⊢
        clear hzz hlt
        have hdec : (20000 : Int) < z ∨ (¬ (20000 : Int) < z ∧ n < 1) ∨ (¬ (20000 : Int) < z ∧ ¬ n < 1 ∧ 100 < n) ∨ (¬ (20000 : Int) < z ∧ ¬ n < 1 ∧ ¬ 100 < n) := by omega
        rcases hdec with h1 | ⟨h1, h2⟩ | ⟨h1, h2, h3⟩ | ⟨h1, h2, h3⟩
        case inr.inr.inr =>
          obtain ⟨N, rfl⟩ : ∃ N : Nat, n = (N : Int) := ⟨n.toNat, by omega⟩
          have hN1 : 1 ≤ N := by omega
          have hN100 : N ≤ 100 := by omega
          have hzT := hT.out
          have hzb : total xs xs.length ≤ 20000 := by omega
          have Hzb := Veil.mk hzb
          clear hzb hzT hT hz h2 h3
          go_wp2_with ((go_at_call 22
                        refine (live_arm (L.out.alloc (.cells #[.int .i64 kp] 3)) _ hn1.2 _ [kp] (Kp.lit1 _ _ kp) (bl_ne L.out.rep.lt) (by show 1 ≤ _; omega)).mono ?_
                        rintro e w3 ⟨rfl, L'⟩
                        rw [arm0] at L'
                        have L := Veil.mk (show Live w1 w3 (fun b => w1.heap.size ≤ b) g (ar [] [] N [kp]) from L'); clear L'))
          go_loopw [11, 12, 13, 14, 15, 16] (fun sv rv cv i _ _ wr => ∃ (k c : Nat) (sf rs : ByteArray), k ≤ xs.length ∧ sv = .string sf ∧ rv = .string rs ∧ cv = .int .i64 c ∧ i = .int .i64 k ∧ sf.size + rs.size = total xs k ∧
            ((c < N ∧ Veil (Live w1 wr (fun b => w1.heap.size ≤ b) g (ar sf.data.toList rs.data.toList (N - c) [kp]))) ∨ (c = N ∧ Veil (Live w1 wr (fun b => w1.heap.size ≤ b) g (crash (ar sf.data.toList rs.data.toList 0 [kp]) [kp]))))) (fun _ _ _ i _ _ _ => xs.length - (intOf i).toNat)
          case atStart => exact ⟨0, 0, ⟨#[]⟩, ⟨#[]⟩, by omega, rfl, rfl, rfl, rfl, rfl, .inl ⟨by omega, by simpa using L⟩⟩
          case round =>
            clear L hki hk
            obtain ⟨k, c', sf, rs, hk, rfl, rfl, rfl, rfl, hsz, hst⟩ := hrel
            rcases hst with ⟨hcN, L⟩ | ⟨hcN, L⟩
            · have HBr := Veil.mk (L.out.fr.below (B := w.heap.size) hB1.out (fun b hb h => by have := hB1.out.size; omega) hB1.out.size)
              have rdn := Veil.mk (ar_down sf.data.toList rs.data.toList (N - c') [kp])
              by_cases hlt : k < xs.length
              · obtain ⟨b, o, rfl, hbw, ckw⟩ := HS.out.at' k hlt
                have hki : (k : Int) < xs.length := by omega
                have ht : total xs (k + 1) = total xs k + (xs.getD k ⟨#[]⟩).size := rfl
                have htb : total xs (k + 1) ≤ 20000 := by have := Hzb.out; have := Htm.out (show k + 1 ≤ xs.length by omega); omega
                generalize xs.getD k ⟨#[]⟩ = s at ckw ht
                have ck := (HBr.out.cell hbw).trans ckw
                have Ckw := Veil.mk ckw; clear ckw
                have hcat : rs.size + s.size ≤ 9223372036854775807 := by omega
                have hcat2 : sf.size + (rs.size + s.size) ≤ 9223372036854775807 := by omega
                have hs63 : s.size ≤ 9223372036854775807 := by omega
                have hll : (sf.data.toList ++ rs.data.toList).length + s.data.toList.length ≤ 16777216 := by simp; omega
                have Hsz : Veil (sf.size + (rs ++ s).size = total xs (k + 1)) := ⟨by rw [ByteArray.size_append]; omega⟩
                have Hsz2 : Veil ((sf ++ (rs ++ s)).size + (⟨#[]⟩ : ByteArray).size = total xs (k + 1)) := ⟨by rw [ByteArray.size_append, ByteArray.size_append]; show _ + 0 = _; omega⟩
                have hc1 : c' + 1 ≤ 100 := by omega
                clear ht htb
                have Hll := Veil.mk hll; clear hll
                have Hcsz := Veil.mk hsz; clear hsz
                have hpar : (((k : Int) % 2 == 1) = true) ∨ (((k : Int) % 2 == 1) = false) := by cases ((k : Int) % 2 == 1) <;> simp
                by_cases hcase : c' + 1 = N
                · have hN : N - c' = 1 := by omega
                  rw [hN] at L
                  have ra : Veil (appendD (ar sf.data.toList rs.data.toList 1 [kp]) 0 s.data.toList = (8, crash (ar sf.data.toList (rs ++ s).data.toList 0 [kp]) [kp])) := ⟨by rw [ar_append1 _ _ _ _ Hll.out, cat_list]⟩
                  have rd := Veil.mk (ar_crashed sf.data.toList (rs ++ s).data.toList [kp])
                  rw [hN] at rdn
                  have e1 : ((c' : Int) + 1 == (N : Int)) = true := by simp; omega
                  have e2 : ¬ (c' : Int) + 1 < (N : Int) := by omega
                  clear hN
                  rcases hpar with hpar | hpar
                  all_goals
                    go_wp2_with (first
                      | (go_at_call 18
                         refine (live_down L.out (by first | exact rdn.out | exact rd.out)).mono ?_
                         rintro e w4 ⟨rfl, rfl⟩)
                      | (go_at_call 10
                         refine (live_append L.out _ _ hs63 ra.out).mono ?_
                         rintro e w5 ⟨rfl, L'⟩
                         have ck5 := ((L'.fr.below (B := w.heap.size) hB1.out (fun b hb h => by have := hB1.out.size; omega) hB1.out.size).cell hbw).trans Ckw.out
                         have L := Veil.mk L'; clear L'))
                    go_roundw
                    case rel => exact ⟨k + 1, c' + 1, sf, rs ++ s, by omega, rfl, rfl, by go_num, by go_num, Hsz.out, .inr ⟨hcase, L⟩⟩
                    case measure => simp [intOf]; omega
                · obtain ⟨m, hm⟩ : ∃ m, N - c' = m + 2 := ⟨N - c' - 2, by omega⟩
                  rw [hm] at L rdn
                  have ra : Veil (appendD (ar sf.data.toList rs.data.toList (m + 2) [kp]) 0 s.data.toList = (0, ar sf.data.toList (rs ++ s).data.toList (m + 1) [kp])) := ⟨by rw [ar_append _ _ _ _ _ Hll.out, cat_list]⟩
                  have rd := Veil.mk (ar_down sf.data.toList (rs ++ s).data.toList (m + 1) [kp])
                  have e1 : ((c' : Int) + 1 == (N : Int)) = false := by simp; omega
                  have e2 : (c' : Int) + 1 < (N : Int) := by omega
                  rcases hpar with hpar | hpar
                  · by_cases hcase2 : c' + 2 = N
                    · obtain rfl : m = 0 := by omega
                      have rf := Veil.mk (ar_flush1 sf.data.toList (rs ++ s).data.toList [kp])
                      have e3 : ((c' : Int) + 1 + 1 == (N : Int)) = true := by simp; omega
                      have e4 : ¬ (c' : Int) + 1 + 1 < (N : Int) := by omega
                      clear hm
                      go_wp2_with (first
                        | (go_at_call 18
                           refine (live_down L.out (by first | exact rdn.out | exact rd.out)).mono ?_
                           rintro e w4 ⟨rfl, rfl⟩)
                        | (go_at_call 10
                           refine (live_append L.out _ _ hs63 ra.out).mono ?_
                           rintro e w5 ⟨rfl, L'⟩
                           have ck5 := ((L'.fr.below (B := w.heap.size) hB1.out (fun b hb h => by have := hB1.out.size; omega) hB1.out.size).cell hbw).trans Ckw.out
                           have L := Veil.mk L'; clear L')
                        | (go_at_call 11
                           refine (live_flush L.out _ rf.out).mono ?_
                           rintro e w6 ⟨rfl, L'⟩
                           have L := Veil.mk L'; clear L'))
                      go_roundw
                      case rel => exact ⟨k + 1, c' + 2, sf, rs ++ s, by omega, rfl, rfl, by go_num, by go_num, Hsz.out, .inr ⟨hcase2, L⟩⟩
                      case measure => simp [intOf]; omega
                    · obtain ⟨m', rfl⟩ : ∃ m', m = m' + 1 := ⟨m - 1, by omega⟩
                      have rf : Veil (flushD (ar sf.data.toList (rs ++ s).data.toList (m' + 1 + 1) [kp]) 0 = (0, ar (sf ++ (rs ++ s)).data.toList (⟨#[]⟩ : ByteArray).data.toList (m' + 1) [kp])) := ⟨by rw [ar_flush, cat_list sf]⟩
                      have e3 : ((c' : Int) + 1 + 1 == (N : Int)) = false := by simp; omega
                      have e4 : (c' : Int) + 1 + 1 < (N : Int) := by omega
                      have hNc : N - (c' + 2) = m' + 1 := by omega
                      have HNc := Veil.mk hNc
                      clear hm hNc
                      go_wp2_with (first
                        | (go_at_call 18
                           refine (live_down L.out (by first | exact rdn.out | exact rd.out)).mono ?_
                           rintro e w4 ⟨rfl, rfl⟩)
                        | (go_at_call 10
                           refine (live_append L.out _ _ hs63 ra.out).mono ?_
                           rintro e w5 ⟨rfl, L'⟩
                           have ck5 := ((L'.fr.below (B := w.heap.size) hB1.out (fun b hb h => by have := hB1.out.size; omega) hB1.out.size).cell hbw).trans Ckw.out
                           have L := Veil.mk L'; clear L')
                        | (go_at_call 11
                           refine (live_flush L.out _ rf.out).mono ?_
                           rintro e w6 ⟨rfl, L'⟩
                           have L := Veil.mk L'; clear L'))
                      refine ⟨⟨k + 1, c' + 2, sf ++ (rs ++ s), (⟨#[]⟩ : ByteArray), by omega, rfl, rfl, by go_num, by go_num, Hsz2.out, .inl ⟨by omega, ⟨by rw [HNc.out]; exact L.out⟩⟩⟩, ?_⟩
                      simp [intOf]; omega
                  · have hNc : N - (c' + 1) = m + 1 := by omega
                    have HNc := Veil.mk hNc
                    clear hm hNc
                    go_wp2_with (first
                      | (go_at_call 18
                         refine (live_down L.out (by first | exact rdn.out | exact rd.out)).mono ?_
                         rintro e w4 ⟨rfl, rfl⟩)
                      | (go_at_call 10
                         refine (live_append L.out _ _ hs63 ra.out).mono ?_
                         rintro e w5 ⟨rfl, L'⟩
                         have ck5 := ((L'.fr.below (B := w.heap.size) hB1.out (fun b hb h => by have := hB1.out.size; omega) hB1.out.size).cell hbw).trans Ckw.out
                         have L := Veil.mk L'; clear L'))
                    go_roundw
                    case rel => exact ⟨k + 1, c' + 1, sf, rs ++ s, by omega, rfl, rfl, by go_num, by go_num, Hsz.out, .inl ⟨by omega, ⟨by rw [HNc.out]; exact L.out⟩⟩⟩
                    case measure => simp [intOf]; omega
              · have hki : ¬ (k : Int) < xs.length := by omega
                have hcn : (c' : Int) < (N : Int) := by omega
                have rp : Veil (peek (ar sf.data.toList rs.data.toList (N - c') [kp]) 0 = ((sf ++ rs).data.toList, 0)) := ⟨by rw [ar_read, cat_list]⟩
                have hcat : sf.size + rs.size ≤ 9223372036854775807 := by have := Hzb.out; have := Htm.out hk; omega
                clear hlt
                go_wp2_with (first
                  | (go_at_call 18
                     refine (live_down L.out rdn.out).mono ?_
                     rintro e w4 ⟨rfl, rfl⟩)
                  | (go_at_call 15
                     refine (live_read_str L.out _ rp.out).mono ?_
                     rintro e w5 ⟨rfl, rfl⟩))
                go_ret
                exact ⟨rfl, HBr.out⟩
            · subst hcN
              have HBr := Veil.mk (L.out.fr.below (B := w.heap.size) hB1.out (fun b hb h => by have := hB1.out.size; omega) hB1.out.size)
              have rdn := Veil.mk (ar_crashed sf.data.toList rs.data.toList [kp])
              have hrl : rs.data.toList.length = rs.size := by simp
              have hcat : sf.size + rs.size ≤ 9223372036854775807 := by have := Hzb.out; have := Htm.out hk; omega
              have hex : ∀ q, (rs.extract 0 q).data.toList = rs.data.toList.take q := fun q => by simp [ByteArray.data_extract]
              have har := ar_after sf.data.toList rs.data.toList kp
              rw [hrl] at har
              have Har := Veil.mk har
              have Hex := Veil.mk hex
              have Hsz := Veil.mk hsz
              clear har hex hsz hrl
              obtain ⟨q, hq, hq1⟩ : ∃ q : Nat, min (max kp 0).toNat rs.size = q ∧ q ≤ rs.size := ⟨_, rfl, by omega⟩
              have rp : Veil (peek (bring (crash (ar sf.data.toList rs.data.toList 0 [kp]) [kp])) 0 = ((sf ++ rs.extract 0 q).data.toList, 0)) := ⟨by rw [Har.out, hq, cat_list, Hex.out]⟩
              have hcat2 : sf.size + (rs.extract 0 q).size ≤ 9223372036854775807 := by rw [ByteArray.size_extract]; omega
              have hcat3 : sf.size + q ≤ 9223372036854775807 := by omega
              have hkk : (k : Int) < xs.length ∨ ¬ (k : Int) < xs.length := by omega
              have hdec : (0 < kp ∧ (rs.size : Int) < kp ∧ q = rs.size) ∨ (0 < kp ∧ ¬ (rs.size : Int) < kp ∧ kp = (q : Int)) ∨ (kp < 0 ∧ q = 0) ∨ (kp = 0 ∧ q = 0) := by omega
              rcases hdec with ⟨d1, d2, d3⟩ | ⟨d1, d2, d3⟩ | ⟨d1, d3⟩ | ⟨d1, d3⟩
              all_goals
                subst d3
                try subst d1
                rcases hkk with hkk | hkk
                all_goals
                  go_wp2_with (first
                    | (go_at_call 18
                       refine (live_down L.out rdn.out).mono ?_
                       rintro e w4 ⟨rfl, rfl⟩)
                    | (go_at_call 14
                       refine (live_start L.out).mono ?_
                       rintro e w5 ⟨rfl, L'⟩
                       have L := Veil.mk L'; clear L')
                    | (go_at_call 15
                       refine (live_read_str L.out _ rp.out).mono ?_
                       rintro e w6 ⟨rfl, rfl⟩))
                  go_ret
                  exact ⟨rfl, L.out.fr.below (B := w.heap.size) hB1.out (fun b hb h => by have := hB1.out.size; omega) hB1.out.size⟩
        all_goals
          go_wp2
          go_ret
          exact ⟨rfl, HB2.out⟩
end Go.Proofs.Ytknbnhmenohacaa
