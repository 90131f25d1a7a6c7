/- The walks of New, Arm and Cut. -/
import Derived.Test.YtjicccjpooahoaaDiskWe
namespace Go.Proofs.Ytjicccjpooahoaa
set_option linter.unusedSectionVars false
set_option linter.unusedVariables false
set_option linter.unusedSimpArgs false
open Go.RowKit Dm
section
variable {S : Nat → Prop} {w : World} {g : Nat} {d : Dk}
set_option maxRecDepth 100000 in
set_option maxHeartbeats 1000000 in
theorem cut_any (h : DRep w S g d) (ho : Ok d) (hS : ∀ b, w.heap.size ≤ b → S b) (f m : Int) :
    Calls Try.prog 32 #[.pointer (some ⟨g, 0, none⟩), .int .i64 f, .int .i64 m] w fun e w' => e = .returned (.int .i64 (cutD d f m).1) ∧ DRep w' S g (cutD d f m).2 ∧ Fr S w w' := by
  have hgS := Veil.mk (show ∀ b, b = g → S b from fun b hb => by rw [hb]; exact h.at')
  have HD := Veil.mk (h.alloc (.cells #[.int .i64 f] 3))
  have Hne := Veil.mk (bl_ne (n := 1) (m := 0) h.lt)
  have HKl := Veil.mk (Kp.lit1 w 3 f)
  have HO1 := Veil.mk (begin_ok ho [f])
  have hz := beginD_zero (d := d) (l := [f])
  have hF : cutD d f m = (if (beginD d [f]).1 ≠ 0 then beginD d [f] else if m < 0 ∨ (size (beginD d [f]).2 f : Int) < m then (1, (beginD d [f]).2) else (0, { (beginD d [f]).2 with fs := upd (beginD d [f]).2.fs f.toNat (((beginD d [f]).2.fs f.toNat).trunc m.toNat) })) := rfl
  have hB := begin_any HD.out ho (.slice (some ⟨w.heap.size, 0, none⟩) 1 1) [f] HKl.out Hne.out (by show 1 ≤ 1000; omega)
  obtain ⟨e1, D1, hbe⟩ : ∃ e1 D1, beginD d [f] = (e1, D1) := ⟨_, _, rfl⟩
  rw [hbe] at hB hF HO1 hz
  simp only at hB hF HO1 hz
  have HF := Veil.mk hF
  have HB := Veil.mk hB
  clear hF hB h ho HD HKl hbe
  by_cases h0 : e1 = 0
  · subst h0
    have hkf : kn f = true := by simpa using hz rfl
    obtain ⟨n, rfl, hn⟩ := kn_form hkf
    clear hz
    have hn8 : (n : Int) < 8 := by omega
    have hsz : size D1 (n : Int) = (D1.fs n).data.length := by unfold size; rw [hkf]; rfl
    rw [hsz] at HF
    have Hsz := Veil.mk hsz; clear hsz hkf
    by_cases hm0 : m < 0
    · have HF2 : Veil (cutD d (n : Int) m = (1, D1)) := ⟨by rw [HF.out, if_neg (by simp), if_pos (.inl hm0)]⟩
      go_enter Try.func32, Try.ntmps32
      go_wp2_with ((go_at_call 49
                    refine HB.out.mono ?_
                    rintro e w1 ⟨rfl, HD1, HF1⟩
                    have HD1 := Veil.mk HD1
                    have HF1 := Veil.mk ((Fr.alloc (S := S) w (.cells #[.int .i64 (n : Int)] 3)).trans (HF1.more hgS.out))))
      go_ret
      refine ⟨?_, ?_, HF1.out⟩
      · rw [HF2.out]; rfl
      · rw [HF2.out]; exact HD1.out
    · obtain ⟨k, rfl⟩ := Int.eq_ofNat_of_zero_le (show 0 ≤ m by omega)
      by_cases hmk : (D1.fs n).data.length < k
      · have HF2 : Veil (cutD d (n : Int) (k : Int) = (1, D1)) := ⟨by rw [HF.out, if_neg (by simp), if_pos (.inr (by omega))]⟩
        have hmi : ((D1.fs n).data.length : Int) < (k : Int) := by omega
        go_enter Try.func32, Try.ntmps32
        go_wp2_with (first
          | (go_at_call 49
             refine HB.out.mono ?_
             rintro e w1 ⟨rfl, HD1, HF1⟩
             have HD1 := Veil.mk HD1
             have HF1 := Veil.mk ((Fr.alloc (S := S) w (.cells #[.int .i64 (n : Int)] 3)).trans (HF1.more hgS.out)))
          | (go_at_call 19
             refine (size_any HD1.out _).mono ?_
             rintro e w2 ⟨rfl, rfl⟩
             rw [Hsz.out]))
        go_ret
        refine ⟨?_, ?_, HF1.out⟩
        · rw [HF2.out]; rfl
        · rw [HF2.out]; exact HD1.out
      · have HF2 : Veil (cutD d (n : Int) (k : Int) = (0, { D1 with fs := upd D1.fs n ((D1.fs n).trunc k) })) := ⟨by rw [HF.out, if_neg (by simp), if_neg (by omega)]; rfl⟩
        have hmi : ¬ ((D1.fs n).data.length : Int) < (k : Int) := by omega
        have Hkl : Veil (k ≤ (D1.fs n).data.length) := ⟨by omega⟩
        clear hmk
        go_enter Try.func32, Try.ntmps32
        go_wp2_with (first
          | (go_at_call 49
             refine HB.out.mono ?_
             rintro e w1 ⟨rfl, HD1, HF1⟩
             have HD1 := Veil.mk HD1
             have HF1 := Veil.mk ((Fr.alloc (S := S) w (.cells #[.int .i64 (n : Int)] 3)).trans (HF1.more hgS.out)))
          | (go_at_call 19
             refine (size_any HD1.out _).mono ?_
             rintro e w2 ⟨rfl, rfl⟩
             rw [Hsz.out])
          | (go_at_call 40
             refine (trunc_any HD1.out n hn k _ Hkl.out rfl).mono ?_
             rintro e w2 ⟨rfl, HD2, HF2'⟩
             have HD2 := Veil.mk HD2
             have HF1 := Veil.mk (HF1.out.trans (HF2'.more hgS.out))))
        go_ret
        refine ⟨?_, ?_, HF1.out⟩
        · rw [HF2.out]; rfl
        · rw [HF2.out]; exact HD2.out
  · have HF2 : Veil (cutD d f m = (e1, D1)) := ⟨by rw [HF.out, if_pos h0]⟩
    clear hz
    have h0' : (e1 == 0) = false := beq_false_of_ne h0
    go_enter Try.func32, Try.ntmps32
    go_wp2_with ((go_at_call 49
                  refine HB.out.mono ?_
                  rintro e w1 ⟨rfl, HD1, HF1⟩
                  have HD1 := Veil.mk HD1
                  have HF1 := Veil.mk ((Fr.alloc (S := S) w (.cells #[.int .i64 f] 3)).trans (HF1.more hgS.out))))
    go_ret
    refine ⟨?_, ?_, HF1.out⟩
    · rw [HF2.out]; rfl
    · rw [HF2.out]; exact HD1.out
end
theorem DRep.fresh (w : World) (S : Nat → Prop) (hS : ∀ b, w.heap.size ≤ b → S b) (cs : Array Value) (hc : cs = (List.replicate 8 [Value.slice none 0 0, .int .i64 0]).flatten.toArray ++ #[.bool false, .int .i64 0, .int .i64 0, .slice none 0 0]) :
    DRep (w.alloc (.cells cs 63)) S w.heap.size dk0 := by
  subst hc
  refine ⟨fun _ => .slice none 0 0, .slice none 0 0, World.rowIs_alloc w _ _ (cellD (fun _ => .slice none 0 0) (.slice none 0 0) dk0) fun i hi => ?_, hS _ (Nat.le_refl _), fun i _ => Fil.nil _, fun i b _ hb => (by cases hb), fun i j b _ _ _ hb => (by cases hb), Kp.nil _, fun b hb => (by cases hb), fun i b _ hb => (by cases hb), fun b hb => (by cases hb)⟩
  have hi : i < 20 := hi
  rcases i with _ | _ | _ | _ | _ | _ | _ | _ | _ | _ | _ | _ | _ | _ | _ | _ | _ | _ | _ | _ | i
  all_goals first | rfl | omega
set_option maxRecDepth 100000 in
theorem new_any (w : World) (S : Nat → Prop) (hS : ∀ b, w.heap.size ≤ b → S b) :
    Calls Try.prog 13 #[] w fun e w' => ∃ g, e = .returned (.pointer (some ⟨g, 0, none⟩)) ∧ DRep w' S g dk0 ∧ Fr S w w' ∧ g = w.heap.size := by
  have H := Veil.mk (DRep.fresh w S hS _ rfl)
  go_enter Try.func13, Try.ntmps13
  go_wp2
  go_ret
  exact ⟨_, rfl, H.out, Fr.alloc _ _, rfl⟩
end Go.Proofs.Ytjicccjpooahoaa
