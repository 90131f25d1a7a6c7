/- The walks of Flush, Cut and Turn. -/
import Derived.Test.YtjicccjpooahoaaDiskWd
namespace Go.Proofs.Ytjicccjpooahoaa
set_option linter.unusedSectionVars false
set_option linter.unusedVariables false
set_option linter.unusedSimpArgs false
open Go.RowKit Dm
section
variable {S : Nat → Prop} {w : World} {g : Nat} {d : Dk}
theorem beginD_zero {l : List Int} (h : (beginD d l).1 = 0) : l.all kn = true := by
  unfold beginD struck at h
  split at h
  · cases h
  split at h
  · cases h
  · simp only at h
    split at h
    · assumption
    · cases h
theorem Kp.lit1 (w : World) (t : TypeId) (x : Int) : Kp (w.alloc (.cells #[.int .i64 x] t)) (.slice (some ⟨w.heap.size, 0, none⟩) 1 1) [x] :=
  ⟨_, 1, rfl, Nat.le_refl _, fun _ => ⟨w.heap.size, 0, rfl, fun j hj => by
    obtain rfl : j = 0 := by simpa using hj
    rw [Nat.zero_add, cell_of_row _ _ 0 _ _ _ (heap_alloc_new w _)]
    rfl⟩⟩
theorem Kp.lit2 (w : World) (t : TypeId) (x y : Int) : Kp (w.alloc (.cells #[.int .i64 x, .int .i64 y] t)) (.slice (some ⟨w.heap.size, 0, none⟩) 2 2) [x, y] :=
  ⟨_, 2, rfl, Nat.le_refl _, fun _ => ⟨w.heap.size, 0, rfl, fun j hj => by
    have : j = 0 ∨ j = 1 := by simp at hj; omega
    rcases this with rfl | rfl
    · rw [Nat.zero_add, cell_of_row _ _ 0 _ _ _ (heap_alloc_new w _)]; rfl
    · rw [Nat.zero_add, cell_of_row _ _ 1 _ _ _ (heap_alloc_new w _)]; rfl⟩⟩
theorem bl_ne {n m : Nat} (h : g < w.heap.size) : ∀ b, bl (.slice (some ⟨w.heap.size, 0, none⟩) n (m + 1)) = some b → b ≠ g := fun b hb => by
  have : w.heap.size = b := Option.some.inj hb
  omega
set_option maxRecDepth 100000 in
set_option maxHeartbeats 1000000 in
theorem flush_any (h : DRep w S g d) (ho : Ok d) (hS : ∀ b, w.heap.size ≤ b → S b) (f : Int) :
    Calls Try.prog 34 #[.pointer (some ⟨g, 0, none⟩), .int .i64 f] w fun e w' => e = .returned (.int .i64 (flushD d f).1) ∧ DRep w' S g (flushD d f).2 ∧ Fr S w w' := by
  have hgS := Veil.mk (show ∀ b, b = g → S b from fun b hb => by rw [hb]; exact h.at')
  have HD := Veil.mk (h.alloc (.cells #[.int .i64 f] 3))
  have HO := Veil.mk ho
  have Hne := Veil.mk (bl_ne (n := 1) (m := 0) h.lt)
  have Hgl := Veil.mk h.lt
  have HKl := Veil.mk (Kp.lit1 w 3 f)
  have HO1 := Veil.mk (begin_ok ho [f])
  have hz := beginD_zero (d := d) (l := [f])
  have hF : flushD d f = (if (beginD d [f]).1 ≠ 0 then beginD d [f] else if 0 < (beginD d [f]).2.lost then (18, { (beginD d [f]).2 with lost := (beginD d [f]).2.lost - 1 }) else (0, { (beginD d [f]).2 with fs := upd (beginD d [f]).2.fs f.toNat ⟨((beginD d [f]).2.fs f.toNat).data, ((beginD d [f]).2.fs f.toNat).data.length⟩ })) := rfl
  have hB := begin_any HD.out ho (.slice (some ⟨w.heap.size, 0, none⟩) 1 1) [f] HKl.out Hne.out (by show 1 ≤ 1000; omega)
  obtain ⟨e1, D1, hbe⟩ : ∃ e1 D1, beginD d [f] = (e1, D1) := ⟨_, _, rfl⟩
  rw [hbe] at hB hF HO1 hz
  simp only at hB hF HO1 hz
  have HF := Veil.mk hF
  have HB := Veil.mk hB
  clear hF hB h ho HD HKl hbe
  by_cases h0 : e1 = 0
  · subst h0
    have hkf : kn f = true := by simpa using hz rfl
    obtain ⟨n, rfl, hn⟩ := kn_form hkf
    clear hz hkf
    by_cases hl : 0 < D1.lost
    · have HF2 : Veil (flushD d (n : Int) = (18, { D1 with lost := D1.lost - 1 })) := ⟨by rw [HF.out, if_neg (by simp), if_pos hl]⟩
      have hll := HO1.out.lost
      go_enter Try.func34, Try.ntmps34
      go_wp2_with ((go_at_call 49
                    refine HB.out.mono ?_
                    rintro e w1 ⟨rfl, HD1, HF1⟩
                    have c17 := HD1.cLost
                    have f17 := HD1.free 17
                    have HD2 : Veil (∀ q : Int, q = (D1.lost : Int) - 1 → DRep (w1.setCell ⟨g, 17, none⟩ (.int .i64 q)) S g { D1 with lost := D1.lost - 1 }) := ⟨fun q hq => by
                      rw [show q = ((D1.lost - 1 : Nat) : Int) from by omega]; exact HD1.setLost (D1.lost - 1)⟩
                    have HF1 := Veil.mk ((Fr.alloc (S := S) w (.cells #[.int .i64 (n : Int)] 3)).trans (HF1.more hgS.out))
                    clear HD1))
      go_ret
      refine ⟨?_, ?_, HF1.out.trans (Fr.setCell (p := ⟨g, 17, none⟩) (hgS.out g rfl) _)⟩
      · rw [HF2.out]; rfl
      · rw [HF2.out]; exact HD2.out _ (by omega)
    · have HF2 : Veil (flushD d (n : Int) = (0, { D1 with fs := upd D1.fs n ⟨(D1.fs n).data, (D1.fs n).data.length⟩ })) := ⟨by rw [HF.out, if_neg (by simp), if_neg hl]; rfl⟩
      have hn8 : (n : Int) < 8 := by omega
      go_enter Try.func34, Try.ntmps34
      go_wp2_with ((go_at_call 49
                    refine HB.out.mono ?_
                    rintro e w1 ⟨rfl, HD1, HF1⟩
                    have c17 := HD1.cLost
                    obtain ⟨A, c, cn, hc⟩ := HD1.cLen n hn _ rfl
                    have cdu := HD1.cDur n hn
                    have fdu := HD1.free (n * 2 + 1)
                    have HD2 := Veil.mk ((HD1.drewN 1).setDur n hn (D1.fs n).data.length)
                    have HF1 := Veil.mk ((Fr.alloc (S := S) w (.cells #[.int .i64 (n : Int)] 3)).trans (HF1.more hgS.out))
                    clear HD1))
      refine wp_region_still_tail 14 (by kernel_rfl) (by kernel_rfl) ?_
      simp only [List.take_succ_cons, List.take_zero, List.drop_succ_cons, List.drop_zero]
      repeat still_step
      refine wpStill_nil ?_
      change wpList _ _ _ _ _ w1.drew
      go_wp2
      go_ret
      refine ⟨?_, ?_, HF1.out.trans ((Fr.drewN w1 1).trans (Fr.setCell (p := ⟨g, n * 2 + 1, none⟩) (hgS.out g rfl) _))⟩
      · rw [HF2.out]; rfl
      · rw [HF2.out]; exact HD2.out
  · have HF2 : Veil (flushD d f = (e1, D1)) := ⟨by rw [HF.out, if_pos h0]⟩
    clear hz
    have h0' : (e1 == 0) = false := beq_false_of_ne h0
    go_enter Try.func34, Try.ntmps34
    go_wp2_with ((go_at_call 49
                  refine HB.out.mono ?_
                  rintro e w1 ⟨rfl, HD1, HF1⟩
                  have HD1 := Veil.mk HD1
                  have HF1 := Veil.mk ((Fr.alloc (S := S) w (.cells #[.int .i64 f] 3)).trans (HF1.more hgS.out))))
    go_ret
    refine ⟨?_, ?_, HF1.out⟩
    · rw [HF2.out]; rfl
    · rw [HF2.out]; exact HD1.out
end
end Go.Proofs.Ytjicccjpooahoaa
