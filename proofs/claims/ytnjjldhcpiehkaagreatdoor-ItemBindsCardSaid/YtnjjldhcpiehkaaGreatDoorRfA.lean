/- The reference of layer 2 on plain values: writing numbers, texts and lists. -/
import Derived.Test.YtnjjldhcpiehkaaGreatDoorCoW
import Derived.Test.YtnjjldhcpiehkaaGreatDoorShaC
namespace Go.Proofs.YtnjjldhcpiehkaaGreatDoor.Pe
set_option linter.unusedSectionVars false
set_option linter.unusedVariables false
set_option linter.unusedSimpArgs false
open Go Go.RowKit Co
set_option maxRecDepth 100000
set_option maxHeartbeats 4000000
theorem fnum_nat : ∀ (f n : Nat), n < f → n < 9223372036854775808 → AC Tryz.prog 74 [.it .i64 n] [] (.st (num n)) []
  | 0, n, h, _ => absurd h (Nat.not_lt_zero _)
  | f + 1, n, hf, hn => by
    by_cases hs : n < 128
    · refine AC.enter [74] [] Tryz.func74 rfl (by decide) (by decide) (Nat.le_of_ble_eq_true rfl) (by kernel_rfl) ?_; simp only [eraseC, eraseO, List.map_cons, List.map_nil, List.map_toArray, List.getElem?_toArray, List.getElem?_cons_zero, List.getElem?_cons_succ, Option.bind_some, Option.bind_none, List.append_eq, List.cons_append, List.nil_append]
      have h0 : ¬ (n : Int) < 0 := by omega
      have h1 : (n : Int) < 128 := by omega
      have hw : IntKind.u8.wrap (n : Int) = (n : Int) := wrap8 (by omega) (by omega)
      have hb : bytesOf [AV.it .u8 (n : Int)] = some [UInt8.ofNat n] := by
        rw [show (AV.it .u8 (n : Int)) = u8 (UInt8.ofNat n) from by unfold u8; rw [ofNat8 (by omega)]]
        exact bytesOf_map [UInt8.ofNat n]
      rw [num_small hs]
      refine runf (And.intro @h0 (And.intro @h1 (And.intro @hw @hb))) ?_
      exact er0
    · have ih := fnum_nat f (n / 128) (by omega) (by omega)
      refine AC.enter [74] [] Tryz.func74 rfl (by decide) (by decide) (Nat.le_of_ble_eq_true rfl) (by kernel_rfl) ?_; simp only [eraseC, eraseO, List.map_cons, List.map_nil, List.map_toArray, List.getElem?_toArray, List.getElem?_cons_zero, List.getElem?_cons_succ, Option.bind_some, Option.bind_none, List.append_eq, List.cons_append, List.nil_append]
      have h0 : ¬ (n : Int) < 0 := by omega
      have h1 : ¬ (n : Int) < 128 := by omega
      have hm : (n : Int).tmod 128 = ((n % 128 : Nat) : Int) := by rw [Int.tmod_eq_emod_of_nonneg (by omega)]; omega
      have hd : (n : Int).tdiv 128 = ((n / 128 : Nat) : Int) := by rw [Int.tdiv_eq_ediv_of_nonneg (by omega)]; omega
      have hw : IntKind.u8.wrap (128 + ((n % 128 : Nat) : Int)) = ((128 + n % 128 : Nat) : Int) := by rw [show (128 : Int) + ((n % 128 : Nat) : Int) = ((128 + n % 128 : Nat) : Int) from by omega]; exact wrap8 (by omega) (by omega)
      have hb : bytesOf [AV.it .u8 ((128 + n % 128 : Nat) : Int)] = some [UInt8.ofNat (128 + n % 128)] := by
        rw [show (AV.it .u8 ((128 + n % 128 : Nat) : Int)) = u8 (UInt8.ofNat (128 + n % 128)) from by unfold u8; rw [ofNat8 (by omega)]]
        exact bytesOf_map [UInt8.ofNat (128 + n % 128)]
      have hl := num_len9 (n := n / 128) (by omega)
      rw [num_big hs]
      refine runf (And.intro @h0 (And.intro @h1 (And.intro @hm (And.intro @hd (And.intro @hw @hb))))) ?_
      refine cp ih ?_
      refine run ?_
      exact er0
theorem fnum_c (n : Int) (h : n < 9223372036854775808) : AC Tryz.prog 74 [.it .i64 n] [] (.st (numI n)) [] := by
  by_cases h0 : n < 0
  · refine AC.enter [74] [] Tryz.func74 rfl (by decide) (by decide) (Nat.le_of_ble_eq_true rfl) (by kernel_rfl) ?_; simp only [eraseC, eraseO, List.map_cons, List.map_nil, List.map_toArray, List.getElem?_toArray, List.getElem?_cons_zero, List.getElem?_cons_succ, Option.bind_some, Option.bind_none, List.append_eq, List.cons_append, List.nil_append]
    rw [show numI n = [] from by unfold numI; rw [if_pos h0]]
    refine run ?_
    exact er0
  · obtain ⟨m, rfl⟩ : ∃ m : Nat, n = (m : Int) := ⟨n.toNat, by omega⟩
    rw [numI_nat]
    exact fnum_nat (m + 1) m (by omega) (by omega)
theorem ftext_c (s : By) (h : s.length ≤ 1000000000) : AC Tryz.prog 68 [.st s] [] (.st (text s)) [] := by
  refine AC.enter [74] [] Tryz.func68 rfl (by decide) (by decide) (Nat.le_of_ble_eq_true rfl) (by kernel_rfl) ?_; simp only [eraseC, eraseO, List.map_cons, List.map_nil, List.map_toArray, List.getElem?_toArray, List.getElem?_cons_zero, List.getElem?_cons_succ, Option.bind_some, Option.bind_none, List.append_eq, List.cons_append, List.nil_append]
  have k := fnum_c (s.length : Int) (by omega)
  rw [numI_nat] at k
  have hl := num_len9 (n := s.length) (by omega)
  unfold text
  refine run ?_
  refine cp k ?_
  refine run ?_
  exact er0
end Go.Proofs.YtnjjldhcpiehkaaGreatDoor.Pe
