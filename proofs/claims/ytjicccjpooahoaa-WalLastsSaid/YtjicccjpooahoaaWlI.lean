/- Chapter 10's laws on plain values: small. -/
import Derived.Test.YtjicccjpooahoaaWlH
set_option linter.unusedSectionVars false
set_option linter.unusedVariables false
set_option linter.unusedSimpArgs false
namespace Go.Proofs.Ytjicccjpooahoaa.Pe
open Go Go.RowKit Co Dm Wl
set_option maxRecDepth 100000
set_option maxHeartbeats 4000000
theorem small10_c : AC Try.prog 7 [] [] (.bo true) [] := by
 refine AC.enter2 [12] [] Try.func7 rfl (by decide) (by decide) (Nat.le_of_ble_eq_true rfl) (by kernel_rfl) ?_; simp only [eraseC, eraseG, eraseO, List.map_cons, List.map_nil, List.map_toArray, List.getElem?_toArray, List.getElem?_cons_zero, List.getElem?_cons_succ, Option.bind_some, Option.bind_none, List.append_eq, List.cons_append, List.nil_append]
 -- the log opened
 obtain ⟨d1, e1, c1', f1, _⟩ := calm_open dk0_calm (n := 2) (by omega)
 have o1 := openD_ok (f := ((2 : Nat) : Int)) dk0_ok
 have k1 := wopen_ok dk0 ((2 : Nat) : Int) (by decide) (by decide) (by rw [e1])
 rw [e1] at k1 o1
 have k2 := wopen_bad d1 7 (by decide)
 have f1 : d1.fs 2 = ⟨[], 0⟩ := f1
 -- two rows
 obtain ⟨d2, e2, c2, f2, _⟩ := calm_add' c1' (n := 2) (by omega) (s := [97]) (by decide) (by rw [f1]; decide)
 have o2 := addD_ok (f := ((2 : Nat) : Int)) (s := [97]) o1
 have k3 := wadd_c d1 ((2 : Nat) : Int) [] [97] (by decide) (by decide)
 rw [e2] at k3 o2
 simp only [if_true, List.nil_append] at k3 o2
 rw [f1] at f2
 obtain ⟨d3, e3, c3, f3, _⟩ := calm_flush' c2 (n := 2) (by omega)
 have o3 := flush_ok o2 ((2 : Nat) : Int)
 have k4 := wflush_c d2 ((2 : Nat) : Int) [[97]]
 rw [e3] at k4 o3
 rw [f2] at f3
 simp only [List.nil_append] at f3 o3 k4
 obtain ⟨d4, e4, c4, f4, _⟩ := calm_add' c3 (n := 2) (by omega) (s := [98]) (by decide) (by rw [f3]; decide)
 have o4 := addD_ok (f := ((2 : Nat) : Int)) (s := [98]) o3
 have k5 := wadd_c d3 ((2 : Nat) : Int) [[97]] [98] (by decide) (by decide)
 rw [e4] at k5 o4
 simp only [if_true, List.cons_append, List.nil_append] at k5 o4
 rw [f3] at f4
 -- a crash
 obtain ⟨c5, f5⟩ := calm_reboot c4 []
 have w5 := crash_down c4 []
 have k6 := d_crash d4 .ro []
 have o5 := bring_ok (crash_ok o4 [])
 have k7 := wadd_c (crash d4 []) ((2 : Nat) : Int) [[97], [98]] [99] (by decide) (by decide)
 rw [down_add w5 (by decide)] at k7
 simp only at k7
 rw [if_neg (show ¬ ((8 : Int) = 0) by decide)] at k7
 have k8 := d_start (crash d4 [])
 generalize crash d4 [] = d4' at *
 generalize bring d4' = d5 at *
 have f5 := f5 2
 rw [f4, show ([] : List Int).getD 2 0 = 0 from rfl, crash_zero] at f5
 obtain ⟨d6, e6, c6, f6, _⟩ := calm_open c5 (n := 2) (by omega)
 have o6 := openD_ok (f := ((2 : Nat) : Int)) o5
 have k9 := wopen_ok d5 ((2 : Nat) : Int) (by decide) (by rw [calm_peek c5 (by omega), f5]; decide) (by rw [e6])
 have r6 : rowsOf (rec1 [97]) = [[97]] := by have := (rows_recs (l := [[97]]) (fun s hs => by rw [List.mem_singleton.1 hs]; decide)).1; simpa [recs] using this
 rw [e6, calm_peek c5 (by omega), f5] at k9
 rw [e6] at o6
 simp only at k9 o6
 rw [r6] at k9
 rw [f5] at f6
 simp only at f6
 rw [r6] at f6
 have k10 := wall_c d6 ((2 : Nat) : Int) [[97]] (by decide)
 -- rewritten
 have okx : okL [[120], []] := fun s hs => by
  simp only [List.mem_cons, List.not_mem_nil, or_false] at hs
  rcases hs with rfl | rfl <;> decide
 obtain ⟨d7, e7, c7, f7, _⟩ := calm_rewrite c6 o6 (n := 2) (by omega) (l := [[120], []]) okx (by decide)
 have k11 := wrew_c d6 ((2 : Nat) : Int) [[97]] [[120], []] (by decide) (by decide) (LW d7 ((2 : Nat) : Int) [[120], []] 1) (fun _ => by rw [e7]; rfl) (fun h => by rw [e7] at h; exact absurd rfl h)
 rw [e7] at k11
 obtain ⟨c8, f8⟩ := calm_reboot c7 []
 have k12 := d_crash d7 .ro []
 have k13 := d_start (crash d7 [])
 have f8 := f8 2
 rw [f7, crash_dur] at f8
 generalize crash d7 [] = d7' at *
 generalize bring d7' = d8 at *
 obtain ⟨d9, e9, c9, f9, _⟩ := calm_open c8 (n := 2) (by omega)
 have r9 := (rows_recs okx).1
 have k14 := wopen_ok d8 ((2 : Nat) : Int) (by decide) (by rw [calm_peek c8 (by omega), f8]; decide) (by rw [e9])
 rw [e9, calm_peek c8 (by omega), f8] at k14
 simp only at k14
 rw [r9] at k14
 have k15 := wall_c d9 ((2 : Nat) : Int) [[120], []] (by decide)
 have s1 := rsame_c [[97]] [[97]] (by decide) (by decide)
 have s2 := rsame_c [[120], []] [[120], []] (by decide) (by decide)
 clear f1 f2 f3 f4 f5 f6 f7 f8 f9 r6 r9 okx e1 e2 e3 e4 e6 e7 e9 c1' c2 c3 c4 c5 c6 c7 c8 c9 o1 o2 o3 o4 o5 o6 w5
 refine run ?_
 refine call_mk (AC.newAt d_new _) ?_
 refine run ?_
 refine clo 0 k1 ?_
 refine run ?_
 refine c1 0 k2 ?_
 refine run ?_
 refine call_mk ((wopen_nil 2).pure rfl rfl _) ?_
 refine run ?_
 refine clg 0 1 2 (wlen_c d1 _ []) ?_
 refine run ?_
 refine clg 0 1 2 k3 ?_
 refine run ?_
 refine clg 0 1 2 k4 ?_
 refine run ?_
 refine clg 0 1 2 k5 ?_
 refine run ?_
 refine clg 0 1 2 (wlen_c d4 _ [[97], [98]]) ?_
 refine run ?_
 refine c1 0 k6 ?_
 refine run ?_
 refine clg 0 1 2 k7 ?_
 refine run ?_
 refine c1 0 k8 ?_
 refine run ?_
 refine clo 0 k9 ?_
 refine run ?_
 refine clg 0 3 4 k10 ?_
 refine run ?_
 refine clw 0 3 4 k11 ?_
 refine run ?_
 refine c1 0 k12 ?_
 refine run ?_
 refine c1 0 k13 ?_
 refine run ?_
 refine clo 0 k14 ?_
 refine run ?_
 refine cp s1 ?_
 refine run ?_
 refine clg 0 6 7 k15 ?_
 refine run ?_
 refine cp s2 ?_
 refine run ?_
 exact er0
end Go.Proofs.Ytjicccjpooahoaa.Pe
