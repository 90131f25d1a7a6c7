/- The walks of agoralaw03.flip and SumDetects: it answers true at every string, position and pattern. -/
import Derived.Test.YtcjagjganiigiaaDoorSumWg
import Derived.Test.YtcjagjganiigiaaDoorSumPe
namespace Go.Proofs.YtcjagjganiigiaaDoor
open Go.RowKit Sm
set_option maxRecDepth 100000 in
set_option maxHeartbeats 2000000 in
theorem flip_any (s : ByteArray) (f : Int) (p : BitVec 32) (w : World) (hs : s.size ≤ 4000) (hf : -32 ≤ f ∧ f ≤ 32000) :
    Calls Tryd.prog 20 #[.string s, .int .i64 f, w32 p] w fun e w' => e = .returned (.tuple #[.string ⟨(flipAt s.data.toList f p 32).1.toArray⟩, .bool (flipAt s.data.toList f p 32).2]) ∧ Below w.heap.size w w' := by
  have hm : s.size ≤ maxLen := by unfold maxLen; omega
  obtain ⟨hf1, hf2⟩ := hf
  have hsl : s.data.toList.length = s.size := by simp
  have Hsl := Veil.mk hsl; clear hsl
  go_enter Tryd.func20, Tryd.ntmps20
  go_wp2_with (refine bytes_arm w rfl _ _ (.tmp 12) rfl 5 s rfl Tryd.underlying9 Tryd.underlying34 Tryd.underlying5 hm (base := w.heap.size) (Nat.le_refl _) ?_; intro v0 w0 own0 gr0 hx; clear hx)
  have hb0 : Below w.heap.size w w0 := (Below.refl _ _).grown gr0 (Nat.le_refl _) (fun k hk => by cases hk)
  clear gr0
  go_loopw [9, 10, 11] (fun d i _ wr => ∃ (k : Nat) (l : List UInt8) (b : Bool), k ≤ 32 ∧ i = .int .i64 k ∧ Veil (flipAt s.data.toList f p k = (l, b)) ∧ d = .bool b ∧ Own wr w.heap.size 5 1 v0 (l.map w8) ∧ Below w.heap.size w wr) (fun _ i _ _ => 32 - (intOf i).toNat)
  case atStart => exact ⟨0, _, _, by omega, rfl, ⟨rfl⟩, rfl, own0, hb0⟩
  case round =>
    obtain ⟨k, l, b, hk, rfl, HF, rfl, hown, hb⟩ := hrel
    have hll : l.length = s.size := by
      have := flipAt_length s.data.toList f p k
      rw [HF.out, Hsl.out] at this; exact this
    have hle := hb.size
    by_cases hlt : k < 32
    · rcases h1 : eq32 ((p >>> k) &&& 1#32) 1#32
      case true =>
        by_cases h0 : 0 ≤ f + (k : Int)
        · by_cases h2 : f + (k : Int) < 8 * (s.size : Int)
          · obtain ⟨j, hj⟩ : ∃ j : Nat, f + (k : Int) = (j : Int) := ⟨(f + (k : Int)).toNat, by omega⟩
            have hjl : j / 8 < l.length := by omega
            obtain ⟨g, cap, rfl, hcap, hbg, hgs, hcell⟩ := hown.form (by simp; omega)
            rw [List.length_map] at hown hcap ⊢
            have hc := hcell (j / 8) (w8 l[j / 8]) (by simp [List.getElem?_eq_getElem hjl])
            have hfz := hown.free (j / 8) (by simpa using hjl)
            clear hcell
            go_wp2
            have q5 : (8 * (l.length : Int)) = 8 * (s.size : Int) := by omega
            have Hll := Veil.mk hll; clear hll
            have q8 : IntKind.i64.wrap ((j : Int) / 8) = ((j / 8 : Nat) : Int) := by rw [IntKind.wrap_i64]; omega
            have q9 : (j : Int) / 8 < l.length := by omega
            have q6 : 0 ≤ (j : Int) / 8 := by omega
            have qn : ((j : Int) / 8).toNat = j / 8 := by omega
            have q7 : Op.shift .shl .u8 1 .i64 ((j : Int).tmod 8) = pure (w8 (shlB 1 (j % 8))) := by
              have e : (j : Int).tmod 8 = ((j % 8 : Nat) : Int) := by rw [Int.tmod_eq_emod_of_nonneg (by omega)]; omega
              rw [e]
              exact shl8' 1 .i64 _ (by omega)
            refine wp_region_still_tail 13 (by kernel_rfl) (by kernel_rfl) ?_
            simp only [List.take_succ_cons, List.take_zero, List.drop_succ_cons, List.drop_zero]
            iterate 13 still_step
            refine wpStill_nil ?_
            change wpList _ _ _ _ _ wr.drew
            go_wp2
            go_roundw
            case rel =>
              have hset := (hown.drew).set (j / 8) (by simpa using hjl) (w8 (l[j / 8] ^^^ shlB 1 (j % 8)))
              refine ⟨k + 1, l.set (j / 8) (l[j / 8] ^^^ shlB 1 (j % 8)), true, by omega, by simp, ⟨?_⟩, rfl, ?_, ?_⟩
              · rw [flipAt, if_pos (by unfold hits; rw [h1, Hsl.out]; simp only [Bool.true_and, Bool.and_eq_true, decide_eq_true_eq]; exact ⟨h0, h2⟩), HF.out]
                have e : (f + (k : Int)).toNat = j := by omega
                rw [e, List.getD_eq_getElem?_getD, List.getElem?_eq_getElem hjl]
                rfl
              · rw [List.map_set]; exact hset
              · exact (belowDrewN hb 1).setCell hbg _
            case measure => simp [intOf]; omega
          · obtain ⟨A, cp, rfl⟩ := hown.len1
            rw [List.length_map] at hown ⊢
            go_wp2
            go_roundw
            case rel =>
              refine ⟨k + 1, l, b, by omega, by simp, ⟨?_⟩, rfl, ?_, hb⟩
              · rw [flipAt, if_neg (by unfold hits; rw [Hsl.out]; simp only [Bool.and_eq_true, decide_eq_true_eq]; rintro ⟨_, h⟩; exact h2 h), HF.out]
              · first | exact hown | (rw [← hll]; exact hown)
            case measure => simp [intOf]; omega
        · obtain ⟨A, cp, rfl⟩ := hown.len1
          rw [List.length_map] at hown ⊢
          go_wp2
          go_roundw
          case rel =>
            refine ⟨k + 1, l, b, by omega, by simp, ⟨?_⟩, rfl, ?_, hb⟩
            · rw [flipAt, if_neg (by unfold hits; simp only [Bool.and_eq_true, decide_eq_true_eq]; rintro ⟨⟨_, h⟩, _⟩; exact h0 h), HF.out]
            · first | exact hown | (rw [← hll]; exact hown)
          case measure => simp [intOf]; omega
      case false =>
        obtain ⟨A, cp, rfl⟩ := hown.len1
        rw [List.length_map] at hown ⊢
        go_wp2
        go_roundw
        case rel =>
          refine ⟨k + 1, l, b, by omega, by simp, ⟨?_⟩, rfl, ?_, hb⟩
          · rw [flipAt, if_neg (by unfold hits; rw [h1]; simp), HF.out]
          · first | exact hown | (rw [← hll]; exact hown)
        case measure => simp [intOf]; omega
    · have hk32 : k = 32 := by omega
      subst hk32
      have hrun := Veil.mk (fun q => str_run (P := Tryd.prog) (wr.drewN q) 34 9 5 Tryd.underlying34 Tryd.underlying5 Tryd.underlying9 (hown.rd.drewN q))
      have hrun0 := str_run (P := Tryd.prog) wr 34 9 5 Tryd.underlying34 Tryd.underlying5 Tryd.underlying9 hown.rd
      go_wp2
      go_ret2
      rw [HF.out]
      exact ⟨rfl, hb⟩
set_option maxRecDepth 100000 in
set_option maxHeartbeats 2000000 in
theorem detects_any (s : ByteArray) (f x : Int) (w : World) (hT : Tabs w) (hs : s.size ≤ 9223372036854775807) (hf : -9223372036854775808 ≤ f ∧ f ≤ 9223372036854775807) (hx : 0 ≤ x ∧ x < 4294967296) :
    Calls Tryd.prog 5 #[.string s, .int .i64 f, .int .u32 x] w fun e w' => e = .returned (.bool true) ∧ Below w.heap.size w w' := by
  have HT := Veil.mk hT; clear hT
  have ht : Value.int .u32 x = w32 (BitVec.ofInt 32 x) := by
    unfold w32
    congr 1
    rw [BitVec.toNat_ofInt]
    omega
  rw [ht]
  clear ht
  generalize BitVec.ofInt 32 x = p
  by_cases h1 : 4000 < s.size ∨ f < -32 ∨ 32000 < f
  · have h1i : (4000 : Int) < s.size ∨ ¬ (4000 : Int) < s.size := by omega
    have h2i : f < -32 ∨ ¬ f < -32 := by omega
    rcases h1i with h1i | h1i
    · go_enter Tryd.func5, Tryd.ntmps5
      go_wp2_with (go_at_call 9; refine (small_any _ HT.out).mono ?_; rintro e w1 ⟨rfl, b1⟩)
      go_ret
      exact ⟨rfl, b1⟩
    · rcases h2i with h2i | h2i
      · go_enter Tryd.func5, Tryd.ntmps5
        go_wp2_with (go_at_call 9; refine (small_any _ HT.out).mono ?_; rintro e w1 ⟨rfl, b1⟩)
        go_ret
        exact ⟨rfl, b1⟩
      · have h3i : (32000 : Int) < f := by omega
        go_enter Tryd.func5, Tryd.ntmps5
        go_wp2_with (go_at_call 9; refine (small_any _ HT.out).mono ?_; rintro e w1 ⟨rfl, b1⟩)
        go_ret
        exact ⟨rfl, b1⟩
  · have h1i : ¬ (4000 : Int) < s.size := by omega
    have h2i : ¬ f < -32 := by omega
    have h3i : ¬ (32000 : Int) < f := by omega
    have hsz : s.size ≤ 4000 := by omega
    have hd := detects s.data.toList f p
    have hFl := flipAt_length s.data.toList f p 32
    have hF := flip_any s f p
    generalize (flipAt s.data.toList f p 32).2 = did at hd hF
    generalize hz : (flipAt s.data.toList f p 32).1 = z at hd hF hFl
    clear hz
    have hzl : (⟨z.toArray⟩ : ByteArray).size ≤ 4000 := by show z.toArray.size ≤ _; rw [List.size_toArray, hFl]; simpa using hsz
    have Hd : Veil ((!eq32 (crc s.data.toList) (crc (⟨z.toArray⟩ : ByteArray).data.toList)) = did) := ⟨hd⟩
    have HFl := Veil.mk hF
    clear hd hF hFl
    generalize (⟨z.toArray⟩ : ByteArray) = T at Hd HFl hzl
    have hT2 : T.size ≤ 9223372036854775807 := by omega
    go_enter Tryd.func5, Tryd.ntmps5
    go_wp2_with (first
      | (go_at_call 9; refine (small_any _ HT.out).mono ?_; rintro e w1 ⟨rfl, b1⟩)
      | (go_at_call 20; refine (HFl.out _ hsz (by omega)).mono ?_; rintro e w2 ⟨rfl, b2⟩)
      | (go_at_call 12; refine (crc_any _ _ (by first | exact hs | exact hT2)).mono ?_; rintro e w3 ⟨rfl, rfl⟩))
    go_ret
    refine ⟨?_, b1.trans (b2.mono b1.size)⟩
    rw [Hd.out]
    cases did <;> rfl
end Go.Proofs.YtcjagjganiigiaaDoor
