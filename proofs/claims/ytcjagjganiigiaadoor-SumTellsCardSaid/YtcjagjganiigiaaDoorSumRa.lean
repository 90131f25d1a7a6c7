/- The walks of agoraref03.Crc, turn, digit and Num. -/
import Derived.Test.YtcjagjganiigiaaDoorSumWf
import Derived.Test.YtcjagjganiigiaaDoorSumPf
namespace Go.Proofs.YtcjagjganiigiaaDoor
open Go.RowKit Sm
set_option maxHeartbeats 400000 in
theorem rcrc_any (s : ByteArray) (w : World) (hs : s.size ≤ 9223372036854775807) :
    Calls Tryd.prog 13 #[.string s] w fun e w' => e = .returned (w32 (crc s.data.toList)) ∧ w = w' := by
  go_enter Tryd.func13, Tryd.ntmps13
  go_wp2
  go_loop [3, 4, 5, 6] (fun r i _ _ => ∃ k : Nat, k ≤ s.size ∧ i = .int .i64 k ∧ r = w32 (creg (s.data.toList.take k))) (fun _ i _ _ => s.size - (intOf i).toNat)
  case atStart => exact ⟨0, Nat.zero_le _, rfl, rfl⟩
  case round =>
    obtain ⟨k, hk, rfl, rfl⟩ := hrel
    generalize hr : creg (s.data.toList.take k) = r0
    have Hr := Veil.mk hr; clear hr
    by_cases hlt : k < s.size
    · go_wp2
      go_loop [3, 5, 6] (fun r i _ => ∃ j : Nat, j ≤ 8 ∧ i = .int .i64 j ∧ r = w32 (csteps j (r0 ^^^ bw s[k]))) (fun _ i _ => 8 - (intOf i).toNat)
      case atStart => exact ⟨0, by omega, rfl, rfl⟩
      case round =>
        obtain ⟨j, hj, rfl, rfl⟩ := hrel
        by_cases hlt2 : j < 8
        · generalize hc : csteps j (r0 ^^^ bw s[k]) = c
          have Hc := Veil.mk hc; clear hc
          rcases h1 : eq32 (c % 2#32) 1#32
          all_goals
            go_wp2
            go_round
            case rel => exact ⟨j + 1, by omega, by go_num, val32 (by rw [csteps, Hc.out]; rw [rem2_and] at h1; first | exact (congrArg (· ^^^ _) (quo2_shr c)).trans (cstep_odd c h1) | exact (quo2_shr c).trans (cstep_even c h1))⟩
            case measure => simp [intOf]; omega
        · obtain rfl : j = 8 := by omega
          go_wp2
          go_round
          case rel => exact ⟨k + 1, by omega, by go_num, val32 (by rw [take_snoc s k hlt, creg_snoc, Hr.out]; rfl)⟩
          case measure => simp [intOf]; omega
    · have e := take_all s k hlt
      have E := Veil.mk e; clear e
      go_wp2
      go_ret
      exact ⟨ret32 (by rw [← Hr.out, E.out, crc]; exact ones_sub _), rfl⟩
theorem rturn_any (x : BitVec 32) (n : Int) (w : World) (h0 : 0 < n) (h : n < 32) :
    Calls Tryd.prog 31 #[w32 x, .int .i64 n] w fun e w' => e = .returned (w32 (rot x n.toNat)) ∧ ∃ m, w' = w.drewN m := by
  have e := rot_back x n h0 h
  have E := Veil.mk e; clear e
  have q0 : 0 ≤ n := by omega
  have q1 : 0 ≤ 32 - n := by omega
  have q2 : n ≤ 32 := by omega
  go_enter Tryd.func31, Tryd.ntmps31
  go_wp2
  go_quiet (fail)
  go_wp2
  go_ret
  rw [← E.out]
  exact ⟨rfl, _, rfl⟩
theorem rdigit_any (c : UInt8) (w : World) :
    Calls Tryd.prog 22 #[w8 c] w fun e w' => e = .returned (.int .i64 (digR c)) ∧ w = w' := by
  have e1 : ∀ (_ : le8 48 c = true) (_ : le8 c 57 = true), digR c = ((c - 48).toNat : Int) := by intro h1 h2; simp [digR, dig, h1, h2]
  have e2 : ∀ (_ : (le8 48 c && le8 c 57) = false) (_ : le8 97 c = true) (_ : le8 c 102 = true), digR c = ((c - 97).toNat : Int) + 10 := by
    intro h1 h2 h3
    have h : ∀ c : Fin 256, (le8 48 (UInt8.ofNat c.val) && le8 (UInt8.ofNat c.val) 57) = false → le8 97 (UInt8.ofNat c.val) = true → le8 (UInt8.ofNat c.val) 102 = true → digR (UInt8.ofNat c.val) = ((UInt8.ofNat c.val - 97).toNat : Int) + 10 := by decide +kernel
    have := h ⟨c.toNat, c.toNat_lt⟩
    simp only [UInt8.ofNat_toNat] at this
    exact this h1 h2 h3
  have e3 : ∀ (_ : (le8 48 c && le8 c 57) = false) (_ : (le8 97 c && le8 c 102) = false), digR c = 16 := by intro h1 h2; simp only [digR, dig, h1, h2]; rfl
  have E1 := Veil.mk e1
  have E2 := Veil.mk e2
  have E3 := Veil.mk e3
  have hb := (c - 97).toNat_lt
  clear e1 e2 e3
  rcases h1 : le8 48 c <;> rcases h2 : le8 c 57 <;> rcases h3 : le8 97 c <;> rcases h4 : le8 c 102
  all_goals
    go_enter Tryd.func22, Tryd.ntmps22
    go_wp2
    go_ret
    refine ⟨?_, rfl⟩
    first
      | (rw [E1.out h1 h2]; rfl)
      | (rw [E2.out (by rw [h1, h2]; rfl) h3 h4]; rfl)
      | (rw [E3.out (by rw [h1, h2]; rfl) (by rw [h3, h4]; rfl)]; rfl)
theorem rnum_any (s : ByteArray) (w : World) (hs : s.size ≤ 9223372036854775807) :
    Calls Tryd.prog 19 #[.string s] w fun e w' => e = .returned (.int .i64 (num s.data.toList)) ∧ w = w' := by
  go_enter Tryd.func19, Tryd.ntmps19
  go_wp2
  go_loop [3, 4, 5] (fun r i _ => ∃ k : Nat, k ≤ 8 ∧ i = .int .i64 k ∧ r = .int .i64 (if k ≤ 7 then (nat8 s.data.toList k : Int) else (num s.data.toList : Int))) (fun _ i _ => 8 - (intOf i).toNat)
  case atStart => exact ⟨0, by omega, rfl, rfl⟩
  case round =>
    obtain ⟨k, hk, rfl, rfl⟩ := hrel
    by_cases hlt : k < 8
    · have h7 : k ≤ 7 := by omega
      rw [if_pos h7]
      have hn := nat8_lt s.data.toList k
      have hp : 256 ^ k ≤ 256 ^ 7 := Nat.pow_le_pow_right (by omega) h7
      have hnb : nat8 s.data.toList k < 72057594037927936 := by omega
      clear hn hp
      obtain ⟨b, hb⟩ : ∃ b : Nat, b = (s.data.toList.getD k 0).toNat := ⟨_, rfl⟩
      have hb8 : b < 256 := by have := (s.data.toList.getD k 0).toNat_lt; omega
      have st : k < 7 → ((nat8 s.data.toList (k + 1) : Nat) : Int) = 256 * (nat8 s.data.toList k : Int) + (b : Int) := by
        intro _; rw [nat8, hb]; omega
      have hsm : k < 7 → nat8 s.data.toList k < 281474976710656 := by
        intro h
        have h1 := nat8_lt s.data.toList k
        have h2 : 256 ^ k ≤ 256 ^ 6 := Nat.pow_le_pow_right (by omega) (by omega)
        omega
      have sl : k = 7 → (num s.data.toList : Int) = 32 * (nat8 s.data.toList k : Int) + (b : Int) / 8 := by
        intro h; subst h; rw [hb]; exact (num_last _).symm
      have ek : ∀ (h : k < s.size), ((s[k]).toNat : Int) = (b : Int) := by
        intro h
        rw [hb, List.getD_eq_getElem?_getD, List.getElem?_eq_getElem (by simpa using h)]; rfl
      have e0 : ¬ k < s.size → (b : Int) = 0 := by
        intro h
        rw [hb, List.getD_eq_getElem?_getD, List.getElem?_eq_none (by simp; omega)]; rfl
      clear hb
      generalize hn : nat8 s.data.toList k = n at st sl hnb hsm ⊢
      have Hn := Veil.mk hn
      have St := Veil.mk st
      have Sl := Veil.mk sl
      have Ek := Veil.mk ek
      have E0 := Veil.mk e0
      have Hsm := Veil.mk hsm
      clear hn st sl ek e0 hsm
      by_cases hl : k < s.size
      · have ek := Ek.out hl
        by_cases hk7 : k < 7
        · have hsm := Hsm.out hk7
          go_wp2
          go_round
          case rel => exact ⟨k + 1, by omega, by go_num, val_int (by rw [if_pos (by omega), St.out hk7])⟩
          case measure => simp [intOf]; omega
        · go_wp2
          go_round
          case rel => exact ⟨k + 1, by omega, by go_num, val_int (by rw [if_neg (by omega), Sl.out (by omega)])⟩
          case measure => simp [intOf]; omega
      · by_cases hk7 : k < 7
        · have hsm := Hsm.out hk7
          go_wp2
          go_round
          case rel => exact ⟨k + 1, by omega, by go_num, val_int (by rw [if_pos (by omega), St.out hk7, E0.out hl, Int.add_zero])⟩
          case measure => simp [intOf]; omega
        · go_wp2
          go_round
          case rel => exact ⟨k + 1, by omega, by go_num, val_int (by rw [if_neg (by omega), Sl.out (by omega), E0.out hl]; rfl)⟩
          case measure => simp [intOf]; omega
    · obtain rfl : k = 8 := by omega
      rw [if_neg (by omega)]
      go_wp2
      go_ret
      exact ⟨rfl, rfl⟩
end Go.Proofs.YtcjagjganiigiaaDoor
