/- Package wal on plain values: checksum, record, records. -/
import Derived.Test.YtjicccjpooahoaaCoW
import Derived.Test.YtjicccjpooahoaaSumCr
import Derived.Test.YtjicccjpooahoaaWlP
import Derived.Test.YtjicccjpooahoaaDiskX
import Derived.Test.YtjicccjpooahoaaPeRH
set_option linter.unusedSectionVars false
set_option linter.unusedVariables false
set_option linter.unusedSimpArgs false
namespace Go.Proofs.Ytjicccjpooahoaa.Pe
open Go Go.RowKit Co Dm Wl
set_option maxRecDepth 100000
set_option maxHeartbeats 4000000
instance tabs : Tab := ⟨fun _ _ => none⟩
theorem crc_c (l : By) (h : l.length ≤ 9223372036854775807) : AC Try.prog 54 [.st l] [] (.it .u32 ((Sm.crc l).toNat : Int)) [] := by
 refine AC.ofBelow (by kernel_rfl) fun w g cargs ht hargs => ?_
 rw [lrel_st hargs]
 refine (crc_any ⟨l.toArray⟩ w (by simp [ByteArray.size]; omega)).mono ?_
 rintro r w' ⟨rfl, rfl⟩
 refine ⟨_, rfl, fun g' => ?_, Below.refl _ _⟩
 exact .it g' _ _
theorem shr32 (n k : Nat) (hk : k < 32) : aShr .u32 (n : Int) (k : Int) = some (.it .u32 ((n / 2 ^ k : Nat) : Int)) := by
 unfold aShr
 rw [if_pos (by omega)]
 simp only [Int.toNat_natCast, show IntKind.u32.bits = 32 from rfl, Nat.min_eq_left (Nat.le_of_lt hk)]
 congr 2
 rw [Int.fdiv_eq_ediv_of_nonneg _ (by exact_mod_cast Nat.zero_le _)]
 norm_cast
theorem wrapb (n : Nat) : IntKind.u8.wrap (n : Int) = ((UInt8.ofNat (n % 256)).toNat : Int) := by
 rw [ofNat8 (by omega)]
 unfold IntKind.wrap
 simp [IntKind.bits, IntKind.signed]
theorem checksum_c (s : By) (h : s.length ≤ 9223372036854775807) : AC Try.prog 48 [.st s] [] (.st (ck s)) [] := by
 have e0 := wrapb (Sm.crc s).toNat
 have e1 := wrapb ((Sm.crc s).toNat / 256)
 have e2 := wrapb ((Sm.crc s).toNat / 65536)
 have e3 := wrapb ((Sm.crc s).toNat / 16777216)
 have g1 : aShr .u32 ((Sm.crc s).toNat : Int) 8 = _ := shr32 _ 8 (by omega)
 have g2 : aShr .u32 ((Sm.crc s).toNat : Int) 16 = _ := shr32 _ 16 (by omega)
 have g3 : aShr .u32 ((Sm.crc s).toNat : Int) 24 = _ := shr32 _ 24 (by omega)
 simp only [Nat.reducePow] at g1 g2 g3
 have hk : ck s = [UInt8.ofNat ((Sm.crc s).toNat % 256), UInt8.ofNat ((Sm.crc s).toNat / 256 % 256), UInt8.ofNat ((Sm.crc s).toNat / 65536 % 256), UInt8.ofNat ((Sm.crc s).toNat / 16777216 % 256)] := rfl
 rw [hk]
 have hc := crc_c s h
 clear hk
 generalize (Sm.crc s).toNat = n at *
 generalize UInt8.ofNat (n % 256) = b0 at *
 generalize UInt8.ofNat (n / 256 % 256) = b1 at *
 generalize UInt8.ofNat (n / 65536 % 256) = b2 at *
 generalize UInt8.ofNat (n / 16777216 % 256) = b3 at *
 refine AC.enter [54] [] Try.func48 rfl (by decide) (by decide) (Nat.le_of_ble_eq_true rfl) (by kernel_rfl) ?_; simp only [eraseC, eraseG, eraseO, List.map_cons, List.map_nil, List.map_toArray, List.getElem?_toArray, List.getElem?_cons_zero, List.getElem?_cons_succ, Option.bind_some, Option.bind_none, List.append_eq, List.cons_append, List.nil_append]
 refine run ?_
 refine cp hc ?_
 have hb : bytesOf [AV.it .u8 (b0.toNat : Int), .it .u8 (b1.toNat : Int), .it .u8 (b2.toNat : Int), .it .u8 (b3.toNat : Int)] = some [b0, b1, b2, b3] := bytesOf_map [b0, b1, b2, b3]
 refine runf (an @e0 (an @e1 (an @e2 (an @e3 (an @g1 (an @g2 (an @g3 @hb))))))) ?_
 exact er0
theorem record_c (s : By) (h : s.length ≤ 140737488355328) : AC Try.prog 36 [.st s] [] (.st (rec1 s)) [] := by
 refine AC.enter [51, 48] [] Try.func36 rfl (by decide) (by decide) (Nat.le_of_ble_eq_true rfl) (by kernel_rfl) ?_; simp only [eraseC, eraseG, eraseO, List.map_cons, List.map_nil, List.map_toArray, List.getElem?_toArray, List.getElem?_cons_zero, List.getElem?_cons_succ, Option.bind_some, Option.bind_none, List.append_eq, List.cons_append, List.nil_append]
 have hl := numI_le (s.length : Int) (by omega)
 refine run ?_
 refine cp (num_c s.length (by omega) (by omega)) ?_
 rw [numI_nat] at *
 refine run ?_
 refine cp (checksum_c s (by omega)) ?_
 have hc := ck_len s
 refine run ?_
 exact er0
theorem records_c (s : By) : AC Try.prog 31 [.st s] [] (.fn (.func 43) [] [.ptr 0 0]) [.cells [.st s]] := by
 refine AC.enter [] [] Try.func31 rfl (by decide) (by decide) (Nat.le_of_ble_eq_true rfl) (by kernel_rfl) ?_; simp only [eraseC, eraseG, eraseO, List.map_cons, List.map_nil, List.map_toArray, List.getElem?_toArray, List.getElem?_cons_zero, List.getElem?_cons_succ, Option.bind_some, Option.bind_none, List.append_eq, List.cons_append, List.nil_append]
 refine run ?_
 exact ends_ret [0] (by rfl) (subOk_one 0 (by rfl) (by rfl)) (by rfl) (by rfl) (by rfl)
end Go.Proofs.Ytjicccjpooahoaa.Pe
