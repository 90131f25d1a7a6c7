/- The walks of agoraref03.Crc, turn, digit and Num. -/
import Derived.Test.YtnjjldhcpiehkaaGreatDoorSumW1
import Derived.Test.YtnjjldhcpiehkaaGreatDoorSumPf
namespace Go.Proofs.YtnjjldhcpiehkaaGreatDoor
set_option linter.unusedSectionVars false
set_option linter.unusedVariables false
set_option linter.unusedSimpArgs false
open Go.RowKit Sm
theorem rturn_any (x : BitVec 32) (n : Int) (w : World) (h0 : 0 < n) (h : n < 32) :
    Calls Tryz.prog 199 #[w32 x, .int .i64 n] w fun e w' => e = .returned (w32 (rot x n.toNat)) ∧ ∃ m, w' = w.drewN m := by
  have e := rot_back x n h0 h
  have E := Veil.mk e; clear e
  have q0 : 0 ≤ n := by omega
  have q1 : 0 ≤ 32 - n := by omega
  have q2 : n ≤ 32 := by omega
  go_enter Tryz.func199, Tryz.ntmps199
  go_wp2
  go_quiet (fail)
  go_wp2
  go_ret
  rw [← E.out]
  exact ⟨rfl, _, rfl⟩
theorem rnum_any (s : ByteArray) (w : World) (hs : s.size ≤ 9223372036854775807) :
    Calls Tryz.prog 126 #[.string s] w fun e w' => e = .returned (.int .i64 (num s.data.toList)) ∧ w = w' := by
  go_enter Tryz.func126, Tryz.ntmps126
  go_wp2
  go_loop [3, 4, 5] (fun r i _ => ∃ k : Nat, k ≤ 8 ∧ i = .int .i64 k ∧ r = .int .i64 (if k ≤ 7 then (nat8 s.data.toList k : Int) else (num s.data.toList : Int))) (fun _ i _ => 8 - (intOf i).toNat)
  case atStart => exact ⟨0, by omega, rfl, rfl⟩
  case round =>
    obtain ⟨k, hk, rfl, rfl⟩ := hrel
    by_cases hlt : k < 8
    · have h7 : k ≤ 7 := by omega
      rw [if_pos h7]
      have hn := nat8_lt s.data.toList k
      have hp : 256 ^ k ≤ 256 ^ 7 := Nat.pow_le_pow_right (by omega) h7
      have hnb : nat8 s.data.toList k < 72057594037927936 := by omega
      clear hn hp
      obtain ⟨b, hb⟩ : ∃ b : Nat, b = (s.data.toList.getD k 0).toNat := ⟨_, rfl⟩
      have hb8 : b < 256 := by have := (s.data.toList.getD k 0).toNat_lt; omega
      have st : k < 7 → ((nat8 s.data.toList (k + 1) : Nat) : Int) = 256 * (nat8 s.data.toList k : Int) + (b : Int) := by
        intro _; rw [nat8, hb]; omega
      have hsm : k < 7 → nat8 s.data.toList k < 281474976710656 := by
        intro h
        have h1 := nat8_lt s.data.toList k
        have h2 : 256 ^ k ≤ 256 ^ 6 := Nat.pow_le_pow_right (by omega) (by omega)
        omega
      have sl : k = 7 → (num s.data.toList : Int) = 32 * (nat8 s.data.toList k : Int) + (b : Int) / 8 := by
        intro h; subst h; rw [hb]; exact (num_last _).symm
      have ek : ∀ (h : k < s.size), ((s[k]).toNat : Int) = (b : Int) := by
        intro h
        rw [hb, List.getD_eq_getElem?_getD, List.getElem?_eq_getElem (by simpa using h)]; rfl
      have e0 : ¬ k < s.size → (b : Int) = 0 := by
        intro h
        rw [hb, List.getD_eq_getElem?_getD, List.getElem?_eq_none (by simp; omega)]; rfl
      clear hb
      generalize hn : nat8 s.data.toList k = n at st sl hnb hsm ⊢
      have Hn := Veil.mk hn
      have St := Veil.mk st
      have Sl := Veil.mk sl
      have Ek := Veil.mk ek
      have E0 := Veil.mk e0
      have Hsm := Veil.mk hsm
      clear hn st sl ek e0 hsm
      by_cases hl : k < s.size
      · have ek := Ek.out hl
        by_cases hk7 : k < 7
        · have hsm := Hsm.out hk7
          go_wp2
          go_round
          case rel => exact ⟨k + 1, by omega, by go_num, val_int (by rw [if_pos (by omega), St.out hk7])⟩
          case measure => simp [intOf]; omega
        · go_wp2
          go_round
          case rel => exact ⟨k + 1, by omega, by go_num, val_int (by rw [if_neg (by omega), Sl.out (by omega)])⟩
          case measure => simp [intOf]; omega
      · by_cases hk7 : k < 7
        · have hsm := Hsm.out hk7
          go_wp2
          go_round
          case rel => exact ⟨k + 1, by omega, by go_num, val_int (by rw [if_pos (by omega), St.out hk7, E0.out hl, Int.add_zero])⟩
          case measure => simp [intOf]; omega
        · go_wp2
          go_round
          case rel => exact ⟨k + 1, by omega, by go_num, val_int (by rw [if_neg (by omega), Sl.out (by omega), E0.out hl]; rfl)⟩
          case measure => simp [intOf]; omega
    · obtain rfl : k = 8 := by omega
      rw [if_neg (by omega)]
      go_wp2
      go_ret
      exact ⟨rfl, rfl⟩
end Go.Proofs.YtnjjldhcpiehkaaGreatDoor
