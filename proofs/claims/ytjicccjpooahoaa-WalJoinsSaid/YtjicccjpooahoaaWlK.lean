/- Chapter 10's laws on plain values: WalJoins. -/
import Derived.Test.YtjicccjpooahoaaWlJ
set_option linter.unusedSectionVars false
set_option linter.unusedVariables false
set_option linter.unusedSimpArgs false
namespace Go.Proofs.Ytjicccjpooahoaa.Pe
open Go Go.RowKit Co Dm Wl
set_option maxRecDepth 100000
set_option maxHeartbeats 4000000
theorem joins_c (l m : List By) (hl : l.length ≤ 140737488355328) (hm : m.length ≤ 140737488355328) :
  AC Try.prog 4 [.sl .ro (l.map .st), .sl .ro (m.map .st)] [] (.bo true) [] := by
 refine AC.enter2 [7, 8, 9, 10, 11, 12] [] Try.func4 rfl (by decide) (by decide) (Nat.le_of_ble_eq_true rfl) (by kernel_rfl) ?_; simp only [eraseC, eraseG, eraseO, List.map_cons, List.map_nil, List.map_toArray, List.getElem?_toArray, List.getElem?_cons_zero, List.getElem?_cons_succ, Option.bind_some, Option.bind_none, List.append_eq, List.cons_append, List.nil_append]
 refine run ?_
 refine cp small10_c ?_
 refine run ?_
 refine cp (lbytes_c l hl) ?_
 have hs1 := short_of (l := l)
 have hs2 := short_of (l := m)
 have km := lbytes_c m hm
 generalize bytesN l = n1 at *
 generalize bytesN m = n2 at *
 by_cases bb1 : 1500 < n1
 ·have e1 : (n1 : Int) > 1500 := by omega
  refine runf @e1 ?_
  exact er0
 have e1 : ¬ (n1 : Int) > 1500 := by omega
 obtain ⟨hl30, hsl⟩ := hs1 bb1
 refine runf @e1 ?_
 refine cp km ?_
 by_cases bb2 : 1500 < n2
 ·have e2 : (n2 : Int) > 1500 := by omega
  refine runf @e2 ?_
  exact er0
 have e2 : ¬ (n2 : Int) > 1500 := by omega
 obtain ⟨hm30, hsm⟩ := hs2 bb2
 refine runf @e2 ?_
 refine cp (file_c l (by omega) hsl) ?_
 refine run ?_
 refine cp (file_c m (by omega) hsm) ?_
 have hslm : ∀ s ∈ l ++ m, s.length ≤ 1500 := fun s hs => (List.mem_append.1 hs).elim (hsl s) (hsm s)
 have kf := file_c (l ++ m) (by rw [List.length_append]; omega) hslm
 rw [List.map_append, recs_append] at kf
 have hbl := recs_lt hsl
 have hbm := recs_lt hsm
 have okl := okL_short hsl
 have hrl := (rows_recs okl).1
 -- the file laid and opened
 obtain ⟨d1, e1, c1', f1, _⟩ := calm_append' dk0_calm (n := 0) (by omega) (s := recs l) (by show 0 + (recs l).length ≤ _; omega)
 have f1 : d1.fs 0 = ⟨recs l, 0⟩ := f1
 have o1 := append_ok dk0_ok ((0 : Nat) : Int) (recs l)
 have k1 := d_append dk0 ((0 : Nat) : Int) (recs l) (by omega)
 rw [e1] at k1 o1
 obtain ⟨d2, e2, c2', f2, _⟩ := calm_open c1' (n := 0) (by omega)
 have o2 := openD_ok (f := ((0 : Nat) : Int)) o1
 have k2 := wopen_ok d1 ((0 : Nat) : Int) (by decide) (by rw [calm_peek c1' (by omega), f1]; show (recs l).length ≤ _; omega) (by rw [e2])
 rw [e2, calm_peek c1' (by omega), f1] at k2
 rw [e2] at o2
 simp only at k2 o2
 rw [hrl] at k2
 -- rewritten
 obtain ⟨d3, e3, c3', f3, g3, _⟩ := calm_rewrite c2' o2 (n := 0) (by omega) (l := m) (okL_short hsm) (by omega)
 have k3 := wrew_c d2 ((0 : Nat) : Int) l m (by decide) (by omega) (LW d3 ((0 : Nat) : Int) m l.length) (fun _ => by rw [e3]) (fun h => by rw [e3] at h; exact absurd rfl h)
 rw [e3] at k3
 -- one row more
 obtain ⟨d4, e4, c4', f4, g4⟩ := calm_add' c3' (n := 0) (by omega) (s := [101, 110, 100]) (by decide) (by rw [f3]; show (recs m).length + (rec1 [101, 110, 100]).length ≤ _; have : (rec1 [101, 110, 100]).length ≤ 1048600 := rec1_le _ (by decide); omega)
 have k4 := wadd_c d3 ((0 : Nat) : Int) m [101, 110, 100] (by decide) (by omega)
 rw [e4] at k4
 simp only [if_true] at k4
 have f4 : d4.fs 0 = ⟨recs (m ++ [[101, 110, 100]]), (recs m).length⟩ := by rw [f4, f3, recs_snoc]
 have k5 := d_read d4 ((0 : Nat) : Int)
 rw [calm_peek c4' (by omega), f4] at k5
 simp only at k5
 have k6 := d_size d4 1
 have z1 : size d4 1 = 0 := by
  have := calm_size (d := d4) (n := 1) (by omega)
  rw [g4 1 (by omega), g3] at this
  exact this
 rw [z1] at k6
 have hend : (rec1 [101, 110, 100]).length ≤ 1600 := by
  have h3 := num_le 8 ([101, 110, 100] : By).length (by decide)
  have h4 := ck_len [101, 110, 100]
  rw [rec1, List.length_append, List.length_append]
  simp only [List.length_cons, List.length_nil] at h3 ⊢
  omega
 have hsn := recs_snoc m [101, 110, 100]
 have hsl2 : (recs (m ++ [[101, 110, 100]])).length = (recs m).length + (rec1 [101, 110, 100]).length := by rw [hsn, List.length_append]
 have okm2 : okL (m ++ [[101, 110, 100]]) := okL_append (okL_short hsm) (fun s hs => by rw [List.mem_singleton.1 hs]; decide)
 have k7 := rows_c (recs (m ++ [[101, 110, 100]])) (by omega)
 rw [(rows_recs okm2).1] at k7
 have htk : (recs (m ++ [[101, 110, 100]])).take (recs m).length = recs m := by rw [hsn]; exact List.take_left' rfl
 have k8 := rsame_c (m ++ [[101, 110, 100]]) (m ++ [[101, 110, 100]]) (by simp; omega) (by simp; omega)
 rw [decide_eq_true rfl] at k8
 rw [List.map_append] at k7 k8
 have okm := okL_short hsm
 refine run ?_
 refine cp kf ?_
 have q1 : (recs l ++ recs m == recs l ++ recs m) = true := beq_self_eq_true _
 refine runf @q1 ?_
 refine call_mk (AC.newAt d_new _) ?_
 refine run ?_
 refine c1 1 k1 ?_
 refine run ?_
 refine clo 1 k2 ?_
 refine run ?_
 refine clw 1 2 3 k3 ?_
 refine run ?_
 refine clg 1 2 4 k4 ?_
 refine run ?_
 refine c1 1 k5 ?_
 refine run ?_
 refine cp k7 ?_
 refine run ?_
 refine c1 1 k6 ?_
 have q5 : (recs m).length ≤ (recs (m ++ [[101, 110, 100]])).length := by omega
 have q6 : (recs (m ++ [[101, 110, 100]])).length ≥ (recs m).length := by omega
 refine runf (an @q5 (an @q6 @htk)) ?_
 refine cp k8 ?_
 refine run ?_
 exact er0
end Go.Proofs.Ytjicccjpooahoaa.Pe
