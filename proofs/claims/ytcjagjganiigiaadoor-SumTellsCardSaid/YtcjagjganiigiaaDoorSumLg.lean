/- The walk of agoralaw03.SumTells: it answers true at every string. -/
import Derived.Test.YtcjagjganiigiaaDoorSumWg
import Derived.Test.YtcjagjganiigiaaDoorSumRb
import Derived.Test.YtcjagjganiigiaaDoorSumRe
namespace Go.Proofs.YtcjagjganiigiaaDoor
open Go.RowKit Sm
set_option maxRecDepth 100000 in
set_option maxHeartbeats 2000000 in
theorem tells_any (s : ByteArray) (w : World) (hT : Tabs w) :
    Calls Tryd.prog 3 #[.string s] w fun e w' => e = .returned (.bool true) ∧ Below w.heap.size w w' := by
  have HT := Veil.mk hT; clear hT
  by_cases h1 : 2000 < s.size
  · have h1i : (2000 : Int) < s.size := by omega
    go_enter Tryd.func3, Tryd.ntmps3
    go_wp2_with (go_at_call 9; refine (small_any _ HT.out).mono ?_; rintro e w1 ⟨rfl, b1⟩)
    go_ret
    exact ⟨rfl, b1⟩
  · have h1i : ¬ (2000 : Int) < s.size := by omega
    have hsz : s.size ≤ 70368744177664 := by omega
    have hsz2 : s.size ≤ 9223372036854775807 := by omega
    clear h1
    have q : eq32 (crc s.data.toList) (crc s.data.toList) = true := decide_eq_true rfl
    go_enter Tryd.func3, Tryd.ntmps3
    go_wp2_with (first
      | (go_at_call 9; refine (small_any _ HT.out).mono ?_; rintro e w1 ⟨rfl, b1⟩; have hT1 := Veil.mk (HT.out.below b1 (Nat.le_refl _)); have hB1 := Veil.mk b1; clear b1)
      | (go_at_call 10; refine (unhex_any _ _ hsz).mono ?_; rintro e w2 ⟨rfl, b2⟩; have hT2 := Veil.mk (hT1.out.below b2 (Nat.le_refl _)); have hB2 := Veil.mk (hB1.out.trans (b2.mono hB1.out.size)); clear b2)
      | (go_at_call 11; refine (runhex_any _ _ hsz).mono ?_; rintro e w3 ⟨rfl, b3⟩; have hT3 := Veil.mk (hT2.out.below b3 (Nat.le_refl _)); have hB3 := Veil.mk (hB2.out.trans (b3.mono hB2.out.size)); clear b3)
      | (go_at_call 12; refine (crc_any _ _ hsz2).mono ?_; rintro e w' ⟨rfl, rfl⟩)
      | (go_at_call 13; refine (rcrc_any _ _ hsz2).mono ?_; rintro e w' ⟨rfl, rfl⟩)
      | (go_at_call 14; refine (sha_any _ _ hsz2 hT3.out).mono ?_; rintro e w4 ⟨rfl, b4⟩; have hB4 := Veil.mk (hB3.out.trans (b4.mono hB3.out.size)); clear b4)
      | (go_at_call 15; refine (rsha_any _ _ hsz).mono ?_; rintro e w5 ⟨rfl, b5⟩; have hB5 := Veil.mk (hB4.out.trans (b5.mono hB4.out.size)); clear b5)
      | (go_at_call 16; refine (hex_any _ _ hsz).mono ?_; rintro e w6 ⟨rfl, b6⟩; have hB6 := Veil.mk (hB5.out.trans (b6.mono hB5.out.size)); clear b6)
      | (go_at_call 17; refine (rhex_any _ _ hsz).mono ?_; rintro e w7 ⟨rfl, b7⟩; have hB7 := Veil.mk (hB6.out.trans (b7.mono hB6.out.size)); clear b7)
      | (go_at_call 18; refine (num_any _ _ hsz2).mono ?_; rintro e w' ⟨rfl, rfl⟩)
      | (go_at_call 19; refine (rnum_any _ _ hsz2).mono ?_; rintro e w' ⟨rfl, rfl⟩))
    go_ret
    exact ⟨rfl, hB7.out⟩
end Go.Proofs.YtcjagjganiigiaaDoor
