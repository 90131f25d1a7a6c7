/- The walk of Turn. -/
import Derived.Test.YtjicccjpooahoaaDiskWf
namespace Go.Proofs.Ytjicccjpooahoaa
set_option linter.unusedSectionVars false
set_option linter.unusedVariables false
set_option linter.unusedSimpArgs false
open Go.RowKit Dm
section
variable {S : Nat → Prop} {w : World} {g : Nat} {d : Dk}
/-- file i takes over file j's row, and file j is empty -/
theorem DRep.turned (h : DRep w S g d) (i j : Nat) (hi : i < 8) (hj : j < 8) (hij : i ≠ j) :
    ∃ A c, w.cell? ⟨g, j * 2, none⟩ = some (.slice A (d.fs j).data.length c) ∧
      DRep ((((w.setCell ⟨g, i * 2, none⟩ (.slice A (d.fs j).data.length c)).setCell ⟨g, i * 2 + 1, none⟩ (.int .i64 ((d.fs j).dur : Int))).setCell ⟨g, j * 2, none⟩ (.slice none 0 0)).setCell ⟨g, j * 2 + 1, none⟩ (.int .i64 0)) S g
        { d with fs := upd (upd d.fs i (d.fs j)) j Fl.none } := by
  obtain ⟨vs, kv, hr, h⟩ := h
  obtain ⟨A, c, hv, hc⟩ := (h.fil j hj).form
  refine ⟨A, c, by rw [hr.cell (by omega), cellD_data _ _ _ _ hj, hv], fun k => if k = j then .slice none 0 0 else if k = i then vs j else vs k, kv, ?_, ?_⟩
  · refine ((((hr.set (i * 2) _).set (i * 2 + 1) _).set (j * 2) _).set (j * 2 + 1) _).congr fun k hk => ?_
    by_cases e1 : k = j * 2 + 1
    · subst e1
      rw [if_pos rfl, cellD_dur _ _ _ _ hj]
      simp only [upd_same]
      rfl
    rw [if_neg e1]
    by_cases e2 : k = j * 2
    · subst e2
      rw [if_pos rfl, cellD_data _ _ _ _ hj, if_pos rfl]
    rw [if_neg e2]
    by_cases e3 : k = i * 2 + 1
    · subst e3
      rw [if_pos rfl, cellD_dur _ _ _ _ hi]
      simp only [upd_ne _ hij, upd_same]
    rw [if_neg e3]
    by_cases e4 : k = i * 2
    · subst e4
      rw [if_pos rfl, cellD_data _ _ _ _ hi, if_neg hij, if_pos rfl, hv]
    rw [if_neg e4]
    unfold cellD
    split
    · have n1 : k / 2 ≠ j := by omega
      have n2 : k / 2 ≠ i := by omega
      split
      · simp only [if_neg n1, if_neg n2]
      · simp only [upd_ne _ n1, upd_ne _ n2]
    · rfl
  · have h' := (((h.head' (i * 2) (.slice A (d.fs j).data.length c)).head' (i * 2 + 1) (.int .i64 ((d.fs j).dur : Int))).head' (j * 2) (.slice none 0 0)).head' (j * 2 + 1) (.int .i64 0)
    refine ⟨h'.head, fun k hk => ?_, fun k b hk hb => ?_, fun k l b hk hl hkl hb hb' => ?_, h'.kp, h'.kown, fun k b hk hb hkb => ?_, h'.klt⟩
    · by_cases e : k = j
      · subst e
        simp only [if_pos, upd_same]
        exact Fil.nil _
      · by_cases e2 : k = i
        · subst e2
          simp only [if_neg e, if_pos, upd_ne _ e, upd_same]
          exact h'.fil j hj
        · simp only [if_neg e, if_neg e2, upd_ne _ e, upd_ne _ e2]
          exact h'.fil k hk
    · split at hb
      · cases hb
      split at hb
      · exact h.own j b hj hb
      · exact h.own k b hk hb
    · split at hb
      · cases hb
      rename_i n1
      split at hb'
      · cases hb'
      rename_i n2
      split at hb
      · rename_i n3
        split at hb'
        · rename_i n4; exact hkl (n3.trans n4.symm)
        · exact h.apart j l b hj hl (fun h => n2 h.symm) hb hb'
      · split at hb'
        · exact h.apart k j b hk hj n1 hb hb'
        · exact h.apart k l b hk hl hkl hb hb'
    · split at hb
      · cases hb
      split at hb
      · exact h.kapart j b hj hb hkb
      · exact h.kapart k b hk hb hkb
set_option maxRecDepth 100000 in
set_option maxHeartbeats 1000000 in
theorem turn_any (h : DRep w S g d) (ho : Ok d) (hS : ∀ b, w.heap.size ≤ b → S b) (f f2 : Int) :
    Calls Try.prog 38 #[.pointer (some ⟨g, 0, none⟩), .int .i64 f, .int .i64 f2] w fun e w' => e = .returned (.int .i64 (turnD d f f2).1) ∧ DRep w' S g (turnD d f f2).2 ∧ Fr S w w' := by
  have hgS := Veil.mk (show ∀ b, b = g → S b from fun b hb => by rw [hb]; exact h.at')
  have HD := Veil.mk (h.alloc (.cells #[.int .i64 f, .int .i64 f2] 3))
  have Hne := Veil.mk (bl_ne (n := 2) (m := 1) h.lt)
  have HKl := Veil.mk (Kp.lit2 w 3 f f2)
  have HO1 := Veil.mk (begin_ok ho [f, f2])
  have hz := beginD_zero (d := d) (l := [f, f2])
  have hF : turnD d f f2 = (if (beginD d [f, f2]).1 ≠ 0 then beginD d [f, f2] else if f = f2 then (1, (beginD d [f, f2]).2) else if ((beginD d [f, f2]).2.fs f2.toNat).dur < ((beginD d [f, f2]).2.fs f2.toNat).data.length then (9, (beginD d [f, f2]).2) else (0, { (beginD d [f, f2]).2 with fs := upd (upd (beginD d [f, f2]).2.fs f.toNat ((beginD d [f, f2]).2.fs f2.toNat)) f2.toNat Fl.none })) := rfl
  have hB := begin_any HD.out ho (.slice (some ⟨w.heap.size, 0, none⟩) 2 2) [f, f2] HKl.out Hne.out (by show 2 ≤ 1000; omega)
  obtain ⟨e1, D1, hbe⟩ : ∃ e1 D1, beginD d [f, f2] = (e1, D1) := ⟨_, _, rfl⟩
  rw [hbe] at hB hF HO1 hz
  simp only at hB hF HO1 hz
  have HF := Veil.mk hF
  have HB := Veil.mk hB
  clear hF hB h ho HD HKl hbe
  by_cases h0 : e1 = 0
  · subst h0
    have hkf : kn f = true ∧ kn f2 = true := by simpa using hz rfl
    obtain ⟨n, rfl, hn⟩ := kn_form hkf.1
    obtain ⟨m, rfl, hm⟩ := kn_form hkf.2
    clear hz hkf
    have hn8 : (n : Int) < 8 := by omega
    have hm8 : (m : Int) < 8 := by omega
    by_cases hnm : n = m
    · subst hnm
      have HF2 : Veil (turnD d (n : Int) (n : Int) = (1, D1)) := ⟨by rw [HF.out, if_neg (by simp), if_pos rfl]⟩
      go_enter Try.func38, Try.ntmps38
      go_wp2_with ((go_at_call 49
                    refine HB.out.mono ?_
                    rintro e w1 ⟨rfl, HD1, HF1⟩
                    have HD1 := Veil.mk HD1
                    have HF1 := Veil.mk ((Fr.alloc (S := S) w (.cells #[.int .i64 (n : Int), .int .i64 (n : Int)] 3)).trans (HF1.more hgS.out))))
      go_ret
      refine ⟨?_, ?_, HF1.out⟩
      · rw [HF2.out]; rfl
      · rw [HF2.out]; exact HD1.out
    · have hnmi : ¬ (n : Int) = (m : Int) := by omega
      have hnb : ((n : Int) == (m : Int)) = false := beq_false_of_ne hnmi
      by_cases hdl : (D1.fs m).dur < (D1.fs m).data.length
      · have HF2 : Veil (turnD d (n : Int) (m : Int) = (9, D1)) := ⟨by rw [HF.out, if_neg (by simp), if_neg hnmi]; exact if_pos hdl⟩
        have hdi : ((D1.fs m).dur : Int) < ((D1.fs m).data.length : Int) := by omega
        go_enter Try.func38, Try.ntmps38
        go_wp2_with ((go_at_call 49
                      refine HB.out.mono ?_
                      rintro e w1 ⟨rfl, HD1, HF1⟩
                      obtain ⟨A, c, cm, hc⟩ := HD1.cLen m hm _ rfl
                      have cdu := HD1.cDur m hm
                      have HD1 := Veil.mk HD1
                      have HF1 := Veil.mk ((Fr.alloc (S := S) w (.cells #[.int .i64 (n : Int), .int .i64 (m : Int)] 3)).trans (HF1.more hgS.out))))
        go_quiet (fail)
        go_wp2
        go_ret
        refine ⟨?_, ?_, HF1.out.trans (Fr.drewN _ _)⟩
        · rw [HF2.out]; rfl
        · rw [HF2.out]; exact HD1.out.drewN _
      · have HF2 : Veil (turnD d (n : Int) (m : Int) = (0, { D1 with fs := upd (upd D1.fs n (D1.fs m)) m Fl.none })) := ⟨by rw [HF.out, if_neg (by simp), if_neg hnmi]; exact if_neg hdl⟩
        have hdi : ¬ ((D1.fs m).dur : Int) < ((D1.fs m).data.length : Int) := by omega
        go_enter Try.func38, Try.ntmps38
        go_wp2_with ((go_at_call 49
                      refine HB.out.mono ?_
                      rintro e w1 ⟨rfl, HD1, HF1⟩
                      obtain ⟨A, c, cm, hc⟩ := HD1.cLen m hm _ rfl
                      have cdu := HD1.cDur m hm
                      have HD1 := Veil.mk HD1
                      have HF1 := Veil.mk ((Fr.alloc (S := S) w (.cells #[.int .i64 (n : Int), .int .i64 (m : Int)] 3)).trans (HF1.more hgS.out))))
        go_quiet (fail)
        go_wp2
        generalize hwz : World.drewN w1 _ = wz
        have HDz := Veil.mk (show DRep wz S g D1 by rw [← hwz]; exact HD1.out.drewN _)
        have HFz := Veil.mk (show Fr S w wz by rw [← hwz]; exact HF1.out.trans (Fr.drewN _ _))
        clear HD1 HF1 hwz cm cdu
        obtain ⟨A', c', cm, hT⟩ := (HDz.out.drewN 1).turned n m hn hm hnm
        have hT := Veil.mk hT
        have cm : wz.cell? ⟨g, m * 2, none⟩ = _ := cm
        have cdu := HDz.out.cDur m hm
        obtain ⟨A2, c2, cn, _⟩ := HDz.out.cLen n hn _ rfl
        have cndu := HDz.out.cDur n hn
        have f1 := HDz.out.free (n * 2)
        have f2 := HDz.out.free (n * 2 + 1)
        have f3 := HDz.out.free (m * 2)
        have f4 := HDz.out.free (m * 2 + 1)
        have n1 : n * 2 ≠ m * 2 := by omega
        have n2 : n * 2 ≠ m * 2 + 1 := by omega
        have n3 : n * 2 + 1 ≠ m * 2 := by omega
        have n4 : n * 2 + 1 ≠ m * 2 + 1 := by omega
        refine wp_region_still_tail 11 (by kernel_rfl) (by kernel_rfl) ?_
        simp only [List.take_succ_cons, List.take_zero, List.drop_succ_cons, List.drop_zero]
        repeat still_step
        refine wpStill_nil ?_
        change wpList _ _ _ _ _ wz.drew
        go_wp2
        go_ret
        refine ⟨?_, ?_, HFz.out.trans ((Fr.setCell (p := ⟨g, n * 2, none⟩) (hgS.out g rfl) _).trans ((Fr.setCell (p := ⟨g, n * 2 + 1, none⟩) (hgS.out g rfl) _).trans ((Fr.setCell (p := ⟨g, m * 2, none⟩) (hgS.out g rfl) _).trans ((Fr.setCell (p := ⟨g, m * 2 + 1, none⟩) (hgS.out g rfl) _).trans (Fr.drewN _ 1)))))⟩
        · rw [HF2.out]; rfl
        · rw [HF2.out]; exact hT.out.keep fun _ _ _ => rfl
  · have HF2 : Veil (turnD d f f2 = (e1, D1)) := ⟨by rw [HF.out, if_pos h0]⟩
    clear hz
    have h0' : (e1 == 0) = false := beq_false_of_ne h0
    go_enter Try.func38, Try.ntmps38
    go_wp2_with ((go_at_call 49
                  refine HB.out.mono ?_
                  rintro e w1 ⟨rfl, HD1, HF1⟩
                  have HD1 := Veil.mk HD1
                  have HF1 := Veil.mk ((Fr.alloc (S := S) w (.cells #[.int .i64 f, .int .i64 f2] 3)).trans (HF1.more hgS.out))))
    go_ret
    refine ⟨?_, ?_, HF1.out⟩
    · rw [HF2.out]; rfl
    · rw [HF2.out]; exact HD1.out
end
end Go.Proofs.Ytjicccjpooahoaa
