/- The contract of math/bits.Len64 on plain values. -/
import Derived.Test.YtaphpbiaoofmkaaGreatDoorPeW4
import Derived.Test.YtaphpbiaoofmkaaGreatDoorPeR
import Derived.Test.YtaphpbiaoofmkaaGreatDoorTf
set_option linter.unusedSectionVars false
set_option linter.unusedVariables false
set_option linter.unusedSimpArgs false
namespace Go.Proofs.YtaphpbiaoofmkaaGreatDoor.Pe
open Go
variable [Tab]
set_option maxRecDepth 100000
def blen (n : Nat) : Nat := if n = 0 then 0 else Nat.log2 n + 1
theorem blen_shift {n s : Nat} (h : 2 ^ s ≤ n) : blen n = blen (n / 2 ^ s) + s := by
 have hp : 0 < 2 ^ s := Nat.pow_pos (by omega)
 have h1 : 0 < n / 2 ^ s := Nat.div_pos h hp
 unfold blen
 rw [if_neg (by omega), if_neg (by omega)]
 have e : Nat.log2 n = Nat.log2 (n / 2 ^ s) + s := by
  have h2 := (Nat.log2_eq_iff (n := n / 2 ^ s) (k := Nat.log2 (n / 2 ^ s)) (by omega)).1 rfl
  refine (Nat.log2_eq_iff (by omega)).2 ⟨?_, ?_⟩
  ·rw [Nat.pow_add]
   exact (Nat.le_div_iff_mul_le hp).1 h2.1
  ·rw [show Nat.log2 (n / 2 ^ s) + s + 1 = (Nat.log2 (n / 2 ^ s) + 1) + s from by omega, Nat.pow_add]
   exact (Nat.div_lt_iff_lt_mul hp).1 h2.2
 omega
theorem shr_lit (n : Nat) (b : Int) (s : Nat) (h : b = (s : Int)) (h' : s ≤ 64) : aShr .u64 (n : Int) b = some (.it .u64 ((n / 2 ^ s : Nat) : Int)) := by
 subst h
 unfold aShr
 rw [if_pos (by omega)]
 congr 2
 rw [Int.toNat_natCast, show min s IntKind.u64.bits = s from Nat.min_eq_left h']
 rw [Int.fdiv_eq_ediv_of_nonneg _ (by exact Int.le_of_lt (Int.pow_pos (by omega)))]
 norm_cast
theorem u8_small (x : Nat) (h : x < 256) : IntKind.u8.wrap (x : Int) = (x : Int) := by
 rw [wrap8n]
 simp; omega
theorem blen_le (x : Nat) : blen x ≤ x + 1 := by
 unfold blen
 split
 ·omega
 ·have := Nat.log2_lt (n := x) (k := x) (by assumption)
  have := this.2 Nat.lt_two_pow_self
  omega
theorem tab_idx (L : List UInt8) (hL : ∀ x, x < 256 → L[x]? = some (UInt8.ofNat (blen x))) (x : Nat) (h : x < 256) : (if 0 ≤ (x : Int) then Option.map u8 L[x]? else none) = some (.it .u8 (blen x : Int)) := by
 rw [if_pos (by omega), hL x h]
 have : blen x < 256 := by
  have : blen x ≤ 8 := by
   unfold blen
   split
   ·omega
   ·have := (Nat.log2_lt (n := x) (k := 8) (by assumption)).2 (by omega)
    omega
  omega
 simp only [u8, Option.map_some]
 congr 2
 simp; omega
theorem bound_lit {n m : Nat} (c : Int) (hm : c = (m : Int)) : decide ((n : Int) ≥ c) = decide (m ≤ n) := by
 subst hm
 simp
set_option maxHeartbeats 2000000 in
theorem len64_c (n : Nat) (h : n < 18446744073709551616) : AC Tryz.prog 268 [.it .u64 n] [] (.it .i64 (blen n)) [] := by
 have s8 : ∀ n : Nat, aShr .u64 (n : Int) 8 = some (.it .u64 ((n / 2 ^ 8 : Nat) : Int)) := fun n => shr_lit n 8 8 rfl (by omega)
 have s16 : ∀ n : Nat, aShr .u64 (n : Int) 16 = some (.it .u64 ((n / 2 ^ 16 : Nat) : Int)) := fun n => shr_lit n 16 16 rfl (by omega)
 have s32 : ∀ n : Nat, aShr .u64 (n : Int) 32 = some (.it .u64 ((n / 2 ^ 32 : Nat) : Int)) := fun n => shr_lit n 32 32 rfl (by omega)
 refine AC.enter [] [] Tryz.func268 rfl (by decide) (by decide) (Nat.le_of_ble_eq_true rfl) (by kernel_rfl) ?_; simp only [eraseC, eraseO, List.map_cons, List.map_nil, List.map_toArray, List.getElem?_toArray, List.getElem?_cons_zero, List.getElem?_cons_succ, Option.bind_some, Option.bind_none, List.append_eq, List.cons_append, List.nil_append]
 refine run ?_
 refine iteP_mk (fun h1 => ?_) (fun h1 => ?_)
 ·have l32 : 4294967296 ≤ n := by have := of_decide_eq_true h1; omega
  have e32 := blen_shift (n := n) (s := 32) l32
  have m32 : n / 2 ^ 32 < 4294967296 := by omega
  refine runf (an @s32 (an @s16 @s8)) ?_
  generalize n / 2 ^ 32 = x at *
  refine iteP_mk (fun h1 => ?_) (fun h1 => ?_)
  ·have l16 : 65536 ≤ x := by have := of_decide_eq_true h1; omega
   have e16 := blen_shift (n := x) (s := 16) l16
   have m16 : x / 2 ^ 16 < 65536 := by omega
   refine runf (an @s32 (an @s16 @s8)) ?_
   generalize x / 2 ^ 16 = y at *
   refine iteP_mk (fun h1 => ?_) (fun h1 => ?_)
   ·have l8 : 256 ≤ y := by have := of_decide_eq_true h1; omega
    have e8 := blen_shift (n := y) (s := 8) l8
    have m8 : y / 2 ^ 8 < 256 := by omega
    refine runf (an @s32 (an @s16 @s8)) ?_
    generalize y / 2 ^ 8 = z at *
    have t1 := u8_small z (by omega)
    have t3 := blen_le z
    refine runf @t1 ?_
    refine bindV_mk _ (tab_idx _ (by decide +kernel) z (by omega)) ?_
    refine runf @Int.zero_add ?_
    refine ends_ret0 (by rfl) (by rfl) ?_
    exact congrArg (AV.it .i64) (by omega)
   ·have l8 : y < 256 := by have := of_decide_eq_false h1; omega
    refine run ?_
    have t1 := u8_small y (by omega)
    have t3 := blen_le y
    refine runf @t1 ?_
    refine bindV_mk _ (tab_idx _ (by decide +kernel) y (by omega)) ?_
    refine runf @Int.zero_add ?_
    refine ends_ret0 (by rfl) (by rfl) ?_
    exact congrArg (AV.it .i64) (by omega)
  ·have l16 : x < 65536 := by have := of_decide_eq_false h1; omega
   refine run ?_
   refine iteP_mk (fun h1 => ?_) (fun h1 => ?_)
   ·have l8 : 256 ≤ x := by have := of_decide_eq_true h1; omega
    have e8 := blen_shift (n := x) (s := 8) l8
    have m8 : x / 2 ^ 8 < 256 := by omega
    refine runf (an @s32 (an @s16 @s8)) ?_
    generalize x / 2 ^ 8 = z at *
    have t1 := u8_small z (by omega)
    have t3 := blen_le z
    refine runf @t1 ?_
    refine bindV_mk _ (tab_idx _ (by decide +kernel) z (by omega)) ?_
    refine runf @Int.zero_add ?_
    refine ends_ret0 (by rfl) (by rfl) ?_
    exact congrArg (AV.it .i64) (by omega)
   ·have l8 : x < 256 := by have := of_decide_eq_false h1; omega
    refine run ?_
    have t1 := u8_small x (by omega)
    have t3 := blen_le x
    refine runf @t1 ?_
    refine bindV_mk _ (tab_idx _ (by decide +kernel) x (by omega)) ?_
    refine runf @Int.zero_add ?_
    refine ends_ret0 (by rfl) (by rfl) ?_
    exact congrArg (AV.it .i64) (by omega)
 ·have l32 : n < 4294967296 := by have := of_decide_eq_false h1; omega
  refine run ?_
  refine iteP_mk (fun h1 => ?_) (fun h1 => ?_)
  ·have l16 : 65536 ≤ n := by have := of_decide_eq_true h1; omega
   have e16 := blen_shift (n := n) (s := 16) l16
   have m16 : n / 2 ^ 16 < 65536 := by omega
   refine runf (an @s32 (an @s16 @s8)) ?_
   generalize n / 2 ^ 16 = y at *
   refine iteP_mk (fun h1 => ?_) (fun h1 => ?_)
   ·have l8 : 256 ≤ y := by have := of_decide_eq_true h1; omega
    have e8 := blen_shift (n := y) (s := 8) l8
    have m8 : y / 2 ^ 8 < 256 := by omega
    refine runf (an @s32 (an @s16 @s8)) ?_
    generalize y / 2 ^ 8 = z at *
    have t1 := u8_small z (by omega)
    have t3 := blen_le z
    refine runf @t1 ?_
    refine bindV_mk _ (tab_idx _ (by decide +kernel) z (by omega)) ?_
    refine runf @Int.zero_add ?_
    refine ends_ret0 (by rfl) (by rfl) ?_
    exact congrArg (AV.it .i64) (by omega)
   ·have l8 : y < 256 := by have := of_decide_eq_false h1; omega
    refine run ?_
    have t1 := u8_small y (by omega)
    have t3 := blen_le y
    refine runf @t1 ?_
    refine bindV_mk _ (tab_idx _ (by decide +kernel) y (by omega)) ?_
    refine runf @Int.zero_add ?_
    refine ends_ret0 (by rfl) (by rfl) ?_
    exact congrArg (AV.it .i64) (by omega)
  ·have l16 : n < 65536 := by have := of_decide_eq_false h1; omega
   refine run ?_
   refine iteP_mk (fun h1 => ?_) (fun h1 => ?_)
   ·have l8 : 256 ≤ n := by have := of_decide_eq_true h1; omega
    have e8 := blen_shift (n := n) (s := 8) l8
    have m8 : n / 2 ^ 8 < 256 := by omega
    refine runf (an @s32 (an @s16 @s8)) ?_
    generalize n / 2 ^ 8 = z at *
    have t1 := u8_small z (by omega)
    have t3 := blen_le z
    refine runf @t1 ?_
    refine bindV_mk _ (tab_idx _ (by decide +kernel) z (by omega)) ?_
    refine runf @Int.zero_add ?_
    refine ends_ret0 (by rfl) (by rfl) ?_
    exact congrArg (AV.it .i64) (by omega)
   ·have l8 : n < 256 := by have := of_decide_eq_false h1; omega
    refine run ?_
    have t1 := u8_small n (by omega)
    have t3 := blen_le n
    refine runf @t1 ?_
    refine bindV_mk _ (tab_idx _ (by decide +kernel) n (by omega)) ?_
    refine runf @Int.zero_add ?_
    refine ends_ret0 (by rfl) (by rfl) ?_
    exact congrArg (AV.it .i64) (by omega)
end Go.Proofs.YtaphpbiaoofmkaaGreatDoor.Pe
