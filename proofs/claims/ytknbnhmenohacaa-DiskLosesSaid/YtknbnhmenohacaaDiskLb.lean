/- The walk of agoralaw09.DiskLoses: it answers true at every input. -/
import Derived.Test.YtknbnhmenohacaaDiskTw
import Derived.Test.YtknbnhmenohacaaDiskLa
import Derived.Test.YtknbnhmenohacaaDiskPb
namespace Go.Proofs.Ytknbnhmenohacaa
open Go.RowKit Dm
set_option maxRecDepth 100000 in
set_option maxHeartbeats 2000000 in
theorem loses_any (s : ByteArray) (n : Int) (w : World) (h0 : s.size ≤ 9223372036854775807) (hn1 : n ≤ 9223372036854775807) :
    Calls Try.prog 6 #[.string s, .int .i64 n] w fun e w' => e = .returned (.bool true) ∧ Below w.heap.size w w' := by
  by_cases hbig : 50000 < s.size ∨ 20 < n
  · have hi : (50000 : Int) < s.size ∨ (¬ (50000 : Int) < s.size ∧ (20 : Int) < n) := by omega
    clear hbig
    rcases hi with hi | ⟨hi, hj⟩
    all_goals
      go_enter Try.func6, Try.ntmps6
      go_wp2_with (first
        | (go_at_call 8; refine (small_any _).mono ?_; rintro e w1 ⟨rfl, b1⟩; have hB1 := Veil.mk b1; clear b1)
        | (go_at_call 9
           refine (live_new _ (fun b => w.heap.size ≤ b) (fun _ h => Nat.le_trans hB1.out.size h)).mono ?_
           rintro e w2 ⟨g, rfl, L⟩
           have L := Veil.mk L))
      go_ret
      exact ⟨rfl, L.out.fr.below hB1.out (fun b hb h => by omega) hB1.out.size⟩
  · have hi : ¬ (50000 : Int) < s.size := by omega
    have hj : ¬ (20 : Int) < n := by omega
    have hS : s.data.toList.length ≤ 50000 := by simp; omega
    have r1 := Veil.mk (lz_append s.data.toList n hS)
    clear hS hbig
    go_enter Try.func6, Try.ntmps6
    go_wp2_with (first
      | (go_at_call 8; refine (small_any _).mono ?_; rintro e w1 ⟨rfl, b1⟩; have hB1 := Veil.mk b1; clear b1)
      | (go_at_call 9
         refine (live_new _ (fun b => w1.heap.size ≤ b) (fun _ h => h)).mono ?_
         rintro e w2 ⟨g, rfl, L⟩
         have L := Veil.mk L)
      | (go_at_call 23
         refine (live_lose L.out _ hn1).mono ?_
         rintro e w3 ⟨rfl, L'⟩
         have L := Veil.mk L'; clear L')
      | (go_at_call 10
         refine (live_append L.out _ _ h0 r1.out).mono ?_
         rintro e w4 ⟨rfl, L'⟩
         have L := Veil.mk L'; clear L'))
    go_loopw [7, 8, 9, 10] (fun i _ _ _ wr => ∃ k : Nat, (k : Int) ≤ 20 ∧ k ≤ n.toNat ∧ i = .int .i64 k ∧ Veil (Live w1 wr (fun b => w1.heap.size ≤ b) g (lz s.data.toList (n.toNat - k)))) (fun i _ _ _ _ => n.toNat - (intOf i).toNat)
    case atStart => exact ⟨0, by omega, by omega, rfl, L⟩
    case round =>
      clear L
      obtain ⟨k, hk20, hk, rfl, L⟩ := hrel
      by_cases hlt : k < n.toNat
      · have hki : (k : Int) < n := by omega
        obtain ⟨m, hm⟩ : ∃ m, n.toNat - k = m + 1 := ⟨n.toNat - k - 1, by omega⟩
        have hm2 : n.toNat - (k + 1) = m := by omega
        rw [hm] at L
        have Hm2 := Veil.mk hm2
        have rf := Veil.mk (lz_flush s.data.toList m)
        have rp := Veil.mk (lz_lost s.data.toList m)
        clear hm hm2
        go_wp2_with (first
          | (go_at_call 24
             refine (live_copy L.out (by show 0 ≤ _; omega)).mono ?_
             rintro e w5 ⟨g2, rfl, T⟩
             have T := Veil.mk T)
          | (go_at_call 11
             refine (two_flush T.out _ rf.out).mono ?_
             rintro e w6 ⟨rfl, T'⟩
             have T := Veil.mk T'.swap; clear T')
          | (go_at_call 13
             refine (two_crash T.out.swap).mono ?_
             rintro e w7 ⟨rfl, T'⟩
             have T := Veil.mk T'.swap; clear T')
          | (go_at_call 14
             refine (two_start T.out.swap).mono ?_
             rintro e w8 ⟨rfl, T'⟩
             have T := Veil.mk T'.swap; clear T')
          | (go_at_call 15
             refine (live_read T.out.swap.live _ rp.out).mono ?_
             rintro e w9 ⟨rfl, rfl⟩))
        have L2 : Veil (Live w1 _ (fun b => w1.heap.size ≤ b) g (lz s.data.toList (n.toNat - (k + 1)))) := ⟨by rw [Hm2.out]; exact T.out.live⟩
        go_roundw
        case rel => exact ⟨k + 1, by omega, by omega, by go_num, L2⟩
        case measure => simp [intOf]; omega
      · have hki : ¬ (k : Int) < n := by omega
        have L : Veil (Live w1 wr (fun b => w1.heap.size ≤ b) g (lz s.data.toList 0)) := ⟨by have := L.out; rwa [show n.toNat - k = 0 from by omega] at this⟩
        have rf := Veil.mk (lz_last s.data.toList)
        have rp := Veil.mk (lz_kept s.data.toList)
        clear hlt
        go_wp2_with (first
          | (go_at_call 11
             refine (live_flush L.out _ rf.out).mono ?_
             rintro e w5 ⟨rfl, L'⟩
             have L := Veil.mk L'; clear L')
          | (go_at_call 13
             refine (live_crash L.out _ [] (Kp.nil _) (fun b hb => by cases hb)).mono ?_
             rintro e w6 ⟨rfl, L'⟩
             have L := Veil.mk L'; clear L')
          | (go_at_call 14
             refine (live_start L.out).mono ?_
             rintro e w7 ⟨rfl, L'⟩
             have L := Veil.mk L'; clear L')
          | (go_at_call 15
             refine (live_read_str L.out _ rp.out).mono ?_
             rintro e w8 ⟨rfl, rfl⟩))
        go_ret
        exact ⟨rfl, L.out.fr.below (B := w.heap.size) hB1.out (fun b hb h => by have := hB1.out.size; omega) hB1.out.size⟩
end Go.Proofs.Ytknbnhmenohacaa
