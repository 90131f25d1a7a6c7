/- The walk of agoralaw09.DiskTurns: it answers true at every input. -/
import Derived.Test.YtknbnhmenohacaaDiskL
import Derived.Test.YtknbnhmenohacaaDiskPa
namespace Go.Proofs.Ytknbnhmenohacaa
open Go.RowKit Dm
theorem bytes_self (s : ByteArray) : (⟨s.data.toList.toArray⟩ : ByteArray) = s := by
  obtain ⟨a⟩ := s
  simp
theorem live_read_str {S : Nat → Prop} {w0 w : World} {g : Nat} {d : Dk} (L : Live w0 w S g d) (f : Int) {s : ByteArray} {r : Int} (he : peek d f = (s.data.toList, r)) :
    Calls Try.prog 15 #[.pointer (some ⟨g, 0, none⟩), .int .i64 f] w fun e w' => e = .returned (.tuple #[.string s, .int .i64 r]) ∧ w = w' := by
  have h := live_read L f he
  rw [bytes_self] at h
  exact h
theorem str_nonempty {y : ByteArray} (h : 0 < y.size) : y.toList.isEmpty = false := by
  rw [ByteArray.toList_eq]
  have : y.data.toList.length = y.size := by simp
  cases hh : y.data.toList with
  | nil => rw [hh] at this; simp at this; omega
  | cons a l => rfl
theorem str_empty {y : ByteArray} (h : y.size = 0) : y.toList.isEmpty = true := by
  rw [ByteArray.toList_eq]
  have : y.data.toList.length = y.size := by simp
  cases hh : y.data.toList with
  | nil => rfl
  | cons a l => rw [hh] at this; simp at this; omega
set_option maxRecDepth 100000 in
set_option maxHeartbeats 2000000 in
theorem turns_any (elder newer : ByteArray) (step : Int) (kv : Value) (ks : List Int) (w : World) (hk : Kp w kv ks) (hb : ∀ b, bl kv = some b → b < w.heap.size) (h0 : elder.size ≤ 9223372036854775807) (h1 : newer.size ≤ 9223372036854775807) :
    Calls Try.prog 3 #[.string elder, .string newer, .int .i64 step, kv] w fun e w' => e = .returned (.bool true) ∧ Below w.heap.size w w' := by
  have Hk := Veil.mk hk; have Hb := Veil.mk hb; clear hk hb
  by_cases hbig : 50000 < elder.size ∨ 50000 < newer.size
  · have hi : (50000 : Int) < elder.size ∨ (¬ (50000 : Int) < elder.size ∧ (50000 : Int) < newer.size) := by omega
    clear hbig
    rcases hi with hi | ⟨hi, hj⟩
    all_goals
      go_enter Try.func3, Try.ntmps3
      go_wp2_with (first
        | (go_at_call 8; refine (small_any _).mono ?_; rintro e w1 ⟨rfl, b1⟩; have hB1 := Veil.mk b1; clear b1)
        | (go_at_call 9
           refine (live_new _ (fun b => w.heap.size ≤ b) (fun _ h => Nat.le_trans hB1.out.size h)).mono ?_
           rintro e w2 ⟨g, rfl, L⟩
           have L := Veil.mk L))
      go_ret
      exact ⟨rfl, L.out.fr.below hB1.out (fun b hb h => by omega) hB1.out.size⟩
  · have hi : ¬ (50000 : Int) < elder.size := by omega
    have hj : ¬ (50000 : Int) < newer.size := by omega
    have hE : elder.data.toList.length ≤ 50000 := by simp; omega
    have hN : newer.data.toList.length ≤ 50000 := by simp; omega
    have hnl : newer.data.toList.length = newer.size := by simp
    clear hbig
    obtain ⟨t1, r1, r2⟩ := elder_run elder.data.toList hE
    have r1 := Veil.mk r1; have r2 := Veil.mk r2
    have rN := Veil.mk (newer_run elder.data.toList newer.data.toList hN)
    have rF := Veil.mk (newer_flush elder.data.toList newer.data.toList)
    have main : ∀ (p : Prop), p → p := fun _ h => h
    clear hE hN main
    by_cases hs0 : step = 0
    · subst hs0
      obtain ⟨t3, r3, r4⟩ := run0 elder.data.toList
      have r3 := Veil.mk r3; have r4 := Veil.mk (r4 ks)
      go_enter Try.func3, Try.ntmps3
      go_wp2_with (first
        | (go_at_call 8; refine (small_any _).mono ?_; rintro e w1 ⟨rfl, b1⟩; have hB1 := Veil.mk b1; clear b1)
        | (go_at_call 9
           refine (live_new _ (fun b => w.heap.size ≤ b) (fun _ h => Nat.le_trans hB1.out.size h)).mono ?_
           rintro e w2 ⟨g, rfl, L⟩
           have L := Veil.mk L)
        | (go_at_call 10
           refine (live_append L.out _ _ h0 r1.out).mono ?_
           rintro e w1 ⟨rfl, L'⟩
           have L := Veil.mk L'; clear L')
        | (go_at_call 11
           refine (live_flush L.out _ r2.out).mono ?_
           rintro e w1 ⟨rfl, L'⟩
           have L := Veil.mk L'; clear L')
        | (go_at_call 12
           refine (live_turn L.out _ _ r3.out).mono ?_
           rintro e w1 ⟨rfl, L'⟩
           have L := Veil.mk L'; clear L')
        | (go_at_call 13
           refine (live_crash L.out _ ks (Hk.out.keep2 fun b hb hlt => (L.out.fr.below hB1.out (fun b hb h => by omega) hB1.out.size).block b hlt) (fun b hb => by have := Hb.out b hb; have h2 : w.heap.size ≤ g := L.out.rep.at'; omega)).mono ?_
           rintro e w1 ⟨rfl, L'⟩
           have L := Veil.mk L'; clear L')
        | (go_at_call 14
           refine (live_start L.out).mono ?_
           rintro e w1 ⟨rfl, L'⟩
           have L := Veil.mk L'; clear L')
        | (go_at_call 15
           refine (live_read L.out _ r4.out).mono ?_
           rintro e w1 ⟨rfl, rfl⟩))
      go_ret
      exact ⟨rfl, L.out.fr.below hB1.out (fun b hb h => by omega) hB1.out.size⟩
    · have hsf : (step == 0) = false := beq_false_of_ne hs0
      by_cases hs1 : step = 1
      · subst hs1
        clear hsf hs0
        by_cases hne : 0 < newer.size
        · obtain ⟨r3, r45⟩ := run9 elder.data.toList newer.data.toList (by rw [hnl]; exact hne)
          have r3 := Veil.mk r3
          have r4 := Veil.mk (r45 ks).1
          obtain ⟨n, r5, hn⟩ : ∃ n : Nat, (size (bring (crash (newer3 elder.data.toList newer.data.toList 0) ks)) 4 : Int) = (n : Int) ∧ (n : Int) ≤ newer.size := ⟨_, rfl, by have := (r45 ks).2; omega⟩
          have r5 := Veil.mk r5
          have hemp := str_nonempty hne
          clear r45 hnl
          go_enter Try.func3, Try.ntmps3
          go_wp2_with (first
            | (go_at_call 8; refine (small_any _).mono ?_; rintro e w1 ⟨rfl, b1⟩; have hB1 := Veil.mk b1; clear b1)
            | (go_at_call 9
               refine (live_new _ (fun b => w.heap.size ≤ b) (fun _ h => Nat.le_trans hB1.out.size h)).mono ?_
               rintro e w2 ⟨g, rfl, L⟩
               have L := Veil.mk L)
            | (go_at_call 10
               refine (live_append L.out _ _ (by first | exact h0 | exact h1) (by first | exact r1.out | exact rN.out)).mono ?_
               rintro e w1 ⟨rfl, L'⟩
               have L := Veil.mk L'; clear L')
            | (go_at_call 11
               refine (live_flush L.out _ (by first | exact r2.out | exact rF.out)).mono ?_
               rintro e w1 ⟨rfl, L'⟩
               have L := Veil.mk L'; clear L')
            | (go_at_call 12
               refine (live_turn L.out _ _ r3.out).mono ?_
               rintro e w1 ⟨rfl, L'⟩
               have L := Veil.mk L'; clear L')
            | (go_at_call 13
               refine (live_crash L.out _ ks (Hk.out.keep2 fun b hb hlt => (L.out.fr.below hB1.out (fun b hb h => by omega) hB1.out.size).block b hlt) (fun b hb => by have := Hb.out b hb; have h2 : w.heap.size ≤ g := L.out.rep.at'; omega)).mono ?_
               rintro e w1 ⟨rfl, L'⟩
               have L := Veil.mk L'; clear L')
            | (go_at_call 14
               refine (live_start L.out).mono ?_
               rintro e w1 ⟨rfl, L'⟩
               have L := Veil.mk L'; clear L')
            | (go_at_call 15
               refine (live_read_str L.out _ r4.out).mono ?_
               rintro e w1 ⟨rfl, rfl⟩)
            | (go_at_call 16
               refine (live_size L.out _ r5.out).mono ?_
               rintro e w1 ⟨rfl, rfl⟩))
          go_ret
          exact ⟨rfl, L.out.fr.below hB1.out (fun b hb h => by omega) hB1.out.size⟩
        · have hnz : newer.data.toList.length = 0 := by omega
          obtain ⟨t3, r3, r45⟩ := run2 elder.data.toList newer.data.toList
          rw [hnz] at r3
          have r3 := Veil.mk r3
          have r4 := Veil.mk (r45 ks).1
          have r5 : Veil ((size (bring (crash t3 ks)) 4 : Int) = 0) := ⟨by rw [(r45 ks).2]; rfl⟩
          have hemp := str_empty (y := newer) (by omega)
          clear r45 hnl hnz
          go_enter Try.func3, Try.ntmps3
          go_wp2_with (first
            | (go_at_call 8; refine (small_any _).mono ?_; rintro e w1 ⟨rfl, b1⟩; have hB1 := Veil.mk b1; clear b1)
            | (go_at_call 9
               refine (live_new _ (fun b => w.heap.size ≤ b) (fun _ h => Nat.le_trans hB1.out.size h)).mono ?_
               rintro e w2 ⟨g, rfl, L⟩
               have L := Veil.mk L)
            | (go_at_call 10
               refine (live_append L.out _ _ (by first | exact h0 | exact h1) (by first | exact r1.out | exact rN.out)).mono ?_
               rintro e w1 ⟨rfl, L'⟩
               have L := Veil.mk L'; clear L')
            | (go_at_call 11
               refine (live_flush L.out _ (by first | exact r2.out | exact rF.out)).mono ?_
               rintro e w1 ⟨rfl, L'⟩
               have L := Veil.mk L'; clear L')
            | (go_at_call 12
               refine (live_turn L.out _ _ r3.out).mono ?_
               rintro e w1 ⟨rfl, L'⟩
               have L := Veil.mk L'; clear L')
            | (go_at_call 13
               refine (live_crash L.out _ ks (Hk.out.keep2 fun b hb hlt => (L.out.fr.below hB1.out (fun b hb h => by omega) hB1.out.size).block b hlt) (fun b hb => by have := Hb.out b hb; have h2 : w.heap.size ≤ g := L.out.rep.at'; omega)).mono ?_
               rintro e w1 ⟨rfl, L'⟩
               have L := Veil.mk L'; clear L')
            | (go_at_call 14
               refine (live_start L.out).mono ?_
               rintro e w1 ⟨rfl, L'⟩
               have L := Veil.mk L'; clear L')
            | (go_at_call 15
               refine (live_read_str L.out _ r4.out).mono ?_
               rintro e w1 ⟨rfl, rfl⟩)
            | (go_at_call 16
               refine (live_size L.out _ r5.out).mono ?_
               rintro e w1 ⟨rfl, rfl⟩))
          go_ret
          exact ⟨rfl, L.out.fr.below hB1.out (fun b hb h => by omega) hB1.out.size⟩
      · have hsg : (step == 1) = false := beq_false_of_ne hs1
        obtain ⟨t3, r3, r45⟩ := run2 elder.data.toList newer.data.toList
        have r3 := Veil.mk r3
        have r4 := Veil.mk (r45 ks).1
        have r5 : Veil ((size (bring (crash t3 ks)) 4 : Int) = 0) := ⟨by rw [(r45 ks).2]; rfl⟩
        clear r45 hnl
        go_enter Try.func3, Try.ntmps3
        go_wp2_with (first
          | (go_at_call 8; refine (small_any _).mono ?_; rintro e w1 ⟨rfl, b1⟩; have hB1 := Veil.mk b1; clear b1)
          | (go_at_call 9
             refine (live_new _ (fun b => w.heap.size ≤ b) (fun _ h => Nat.le_trans hB1.out.size h)).mono ?_
             rintro e w2 ⟨g, rfl, L⟩
             have L := Veil.mk L)
          | (go_at_call 10
             refine (live_append L.out _ _ (by first | exact h0 | exact h1) (by first | exact r1.out | exact rN.out)).mono ?_
             rintro e w1 ⟨rfl, L'⟩
             have L := Veil.mk L'; clear L')
          | (go_at_call 11
             refine (live_flush L.out _ (by first | exact r2.out | exact rF.out)).mono ?_
             rintro e w1 ⟨rfl, L'⟩
             have L := Veil.mk L'; clear L')
          | (go_at_call 12
             refine (live_turn L.out _ _ r3.out).mono ?_
             rintro e w1 ⟨rfl, L'⟩
             have L := Veil.mk L'; clear L')
          | (go_at_call 13
             refine (live_crash L.out _ ks (Hk.out.keep2 fun b hb hlt => (L.out.fr.below hB1.out (fun b hb h => by omega) hB1.out.size).block b hlt) (fun b hb => by have := Hb.out b hb; have h2 : w.heap.size ≤ g := L.out.rep.at'; omega)).mono ?_
             rintro e w1 ⟨rfl, L'⟩
             have L := Veil.mk L'; clear L')
          | (go_at_call 14
             refine (live_start L.out).mono ?_
             rintro e w1 ⟨rfl, L'⟩
             have L := Veil.mk L'; clear L')
          | (go_at_call 15
             refine (live_read_str L.out _ r4.out).mono ?_
             rintro e w1 ⟨rfl, rfl⟩)
          | (go_at_call 16
             refine (live_size L.out _ r5.out).mono ?_
             rintro e w1 ⟨rfl, rfl⟩))
        go_ret
        exact ⟨rfl, L.out.fr.below hB1.out (fun b hb h => by omega) hB1.out.size⟩
end Go.Proofs.Ytknbnhmenohacaa
