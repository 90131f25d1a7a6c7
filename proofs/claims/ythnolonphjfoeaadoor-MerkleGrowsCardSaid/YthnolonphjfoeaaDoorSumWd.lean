/- The walks of sum.ending and sum.Sha. -/
import Derived.Test.YthnolonphjfoeaaDoorSumWc
namespace Go.Proofs.YthnolonphjfoeaaDoor
set_option linter.unusedSectionVars false
set_option linter.unusedVariables false
set_option linter.unusedSimpArgs false
open Go.RowKit Sm
theorem elem8 : ElemOk Tryd.prog 58 5 1 1 := ElemOk.mk' (z := .int .u8 0) Tryd.underlying58 (by kernel_rfl) rfl (by omega)
def lenOf : Value → Nat | .slice _ n _ => n | _ => 0
set_option maxHeartbeats 1000000 in
theorem ending_any (s : ByteArray) (n : Int) (w : World) (hs : s.size ≤ 64) :
    Calls Tryd.prog 43 #[.string s, .int .i64 n] w fun e w' => e = .returned (.string ⟨(ending s.data.toList n).toArray⟩) ∧ Below w.heap.size w w' := by
  have hm : s.size ≤ maxLen := by unfold maxLen; omega
  go_enter Tryd.func43, Tryd.ntmps43
  go_wp2_with (first
    | (refine bytes_arm w rfl _ _ (.tmp 8) rfl 5 s rfl Tryd.underlying9 Tryd.underlying58 Tryd.underlying5 hm (base := w.heap.size) (Nat.le_refl _) ?_; intro v0 w0 own0 gr0 hx; clear hx)
    | (at_builtin; refine ap_lit w0 rfl _ _ _ rfl elem8 [.int .u8 128] own0 rfl rfl ?_ ?_ ?_ ?_ ?_))
  · exact one1 rfl
  · simp; omega
  · simp; omega
  · exact gr0.size
  intro v1 w1 own1 gr1
  have hb1 : Below w.heap.size w w1 := belowOwn ((Below.refl _ _).grown gr0 (Nat.le_refl _) (fun k hk => by cases hk)) gr1 own0 (Nat.le_refl _) gr0.size
  have own1' : Own w1 w.heap.size 5 1 v1 ((endZ s.data.toList 0).map w8) := by
    rw [show ((endZ s.data.toList 0).map w8) = s.data.toList.map w8 ++ [.int .u8 128] from by simp [endZ]; rfl]
    exact own1
  clear own0 gr0 gr1 own1
  have hl : s.data.toList.length = s.size := by simp
  generalize hs0 : s.data.toList = l at own1' hl ⊢
  have Hl := Veil.mk hl
  have Hs0 := Veil.mk hs0
  clear hl hs0
  go_wp2
  go_loopw [5] (fun v wr => ∃ (N z : Nat) (A : Option Addr) (c : Nat), v = .slice A N c ∧ Veil (N = l.length + 1 + z) ∧ z ≤ zerosN (l.length + 1) ∧ Own wr w.heap.size 5 1 (.slice A N c) ((endZ l z).map w8) ∧ Below w.heap.size w wr) (fun v _ => l.length + 1 + zerosN (l.length + 1) - lenOf v)
  case atStart =>
    obtain ⟨A, c, rfl⟩ := own1'.len1
    exact ⟨_, 0, A, c, rfl, ⟨by rw [List.length_map, endZ_length]⟩, Nat.zero_le _, own1', hb1⟩
  case round =>
    obtain ⟨N, z, A, c, rfl, HN, hz, hown, hb⟩ := hrel
    have hzl := zerosN_le (l.length + 1)
    have hNs : N ≤ 200 := by have := HN.out; have := Hl.out; omega
    have hmod : ((N : Int) % 64 != 56) = decide (z < zerosN (l.length + 1)) := by
      have h1 := zerosN_at (l.length + 1)
      have h2 := zerosN_before (l.length + 1) z
      rw [HN.out]
      by_cases hlt : z < zerosN (l.length + 1)
      · have := h2 hlt
        simp only [hlt, decide_true, bne_iff_ne]
        omega
      · obtain rfl : z = zerosN (l.length + 1) := by omega
        simp only [hlt, decide_false, bne_eq_false_iff_eq]
        omega
    have hle := hb.size
    by_cases hlt : z < zerosN (l.length + 1)
    · have ht : ((N : Int) % 64 != 56) = true := by rw [hmod]; simpa using hlt
      clear hmod
      go_wp2_with (at_builtin; refine ap_lit wr rfl _ _ _ rfl elem8 [.int .u8 0] hown rfl rfl ?_ ?_ ?_ hle ?_; rotate_left 3; intro v' w' own' gr')
      rotate_left 1
      · exact one1 rfl
      · rw [List.length_map, endZ_length, ← HN.out]; simp; omega
      · rw [List.length_map, endZ_length, ← HN.out]; simp; omega
      have hb' := belowOwn hb gr' hown (Nat.le_refl _) hle
      have own2 : Own w' w.heap.size 5 1 v' ((endZ l (z + 1)).map w8) := by rw [endZ_snoc, List.map_append]; exact own'
      clear own' gr' hown hb
      go_wp2
      go_roundw
      obtain ⟨A', c', rfl⟩ := own2.len1
      case rel => exact ⟨_, z + 1, A', c', rfl, ⟨by rw [List.length_map, endZ_length]⟩, by omega, own2, hb'⟩
      case measure =>
        obtain ⟨A', c', rfl⟩ := own2.len1
        simp only [lenOf, List.length_map, endZ_length]
        have := HN.out
        omega
    · have ht : ((N : Int) % 64 != 56) = false := by rw [hmod]; simpa using hlt
      obtain rfl : z = zerosN (l.length + 1) := by omega
      clear hmod
      go_wp2
      go_loopw [5, 7] (fun v i wr => ∃ (M j : Nat) (A : Option Addr) (c : Nat), v = .slice A M c ∧ j ≤ 8 ∧ i = .int .i64 (56 - 8 * (j : Int)) ∧ Own wr w.heap.size 5 1 (.slice A M c) ((endZ l (zerosN (l.length + 1)) ++ beN (BitVec.ofInt 64 n * 8#64) j).map w8) ∧ Below w.heap.size w wr) (fun _ i _ => (intOf i + 8).toNat)
      case atStart => exact ⟨N, 0, A, c, rfl, by omega, rfl, by simpa [beN] using hown, hb⟩
      case round =>
        obtain ⟨M, j, A', c', rfl, hj, rfl, hown, hb⟩ := hrel
        have hle := hb.size
        have hlen : (endZ l (zerosN (l.length + 1)) ++ beN (BitVec.ofInt 64 n * 8#64) j).length ≤ 200 := by
          rw [List.length_append, endZ_length]
          have : (beN (BitVec.ofInt 64 n * 8#64) j).length ≤ 8 := by simp [beN, be8]; omega
          have := Hl.out
          omega
        by_cases hlt : j < 8
        · have hge : (0 : Int) ≤ 56 - 8 * (j : Int) := by omega
          go_wp2_with (at_builtin; refine ap_lit wr rfl _ _ _ rfl elem8 [_] hown rfl rfl ?_ ?_ ?_ hle ?_; rotate_left 3; intro v' w' own' gr')
          rotate_left 1
          · exact one1 rfl
          · rw [List.length_map]; simp only [List.length_singleton]; omega
          · rw [List.length_map]; simp only [List.length_singleton]; omega
          have hb' := belowOwn hb gr' hown (Nat.le_refl _) hle
          have own2 : Own w' w.heap.size 5 1 v' ((endZ l (zerosN (l.length + 1)) ++ beN (BitVec.ofInt 64 n * 8#64) (j + 1)).map w8) := by
            rw [beN_snoc _ _ hlt, ← List.append_assoc, List.map_append]; exact own'
          clear own' gr' hown hb
          obtain ⟨A2, c2, rfl⟩ := own2.len1
          go_wp2
          go_roundw
          case rel => exact ⟨_, j + 1, A2, c2, rfl, by omega, by go_num, own2, hb'⟩
          case measure => simp [intOf]; omega
        · obtain rfl : j = 8 := by omega
          have hc := str_run (P := Tryd.prog) wr 58 9 5 Tryd.underlying58 Tryd.underlying5 Tryd.underlying9 hown.rd
          go_wp2
          go_ret
          exact ⟨by rw [Hs0.out]; rfl, hb⟩
end Go.Proofs.YthnolonphjfoeaaDoor
