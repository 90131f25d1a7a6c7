/- The walk of DiskDown on plain values: pick, few, small, do. -/
import Derived.Test.YtknbnhmenohacaaPeR
import Derived.Test.YtknbnhmenohacaaDiskX
import Derived.Test.YtknbnhmenohacaaDiskPd
import Derived.Test.YtknbnhmenohacaaDiskL
namespace Go.Proofs.Ytknbnhmenohacaa.Pe
set_option linter.unusedSectionVars false
set_option linter.unusedVariables false
set_option linter.unusedSimpArgs false
open Go Dm
variable [Tab]
set_option maxRecDepth 100000
abbrev aV (a : Dm.Act) : AV := .agg [.it .i64 a.Do, .it .i64 a.F, .it .i64 a.G, .it .i64 a.N, .st a.S, ints .ro a.Keep]
theorem tmod_11 (n : Int) : -11 < n.tmod 11 ∧ n.tmod 11 < 11 := by
  rcases Int.le_total 0 n with h | h
  · rw [Int.tmod_eq_emod_of_nonneg h]; omega
  · have e : n = -(-n) := by omega
    rw [e, Int.neg_tmod, Int.tmod_eq_emod_of_nonneg (by omega)]; omega
theorem pick_c (n : Int) (h : -9223372036854775808 ≤ n ∧ n ≤ 9223372036854775807) : AC Try.prog 20 [.it .i64 n] [] (.it .i64 (pickD n)) [] := by
  refine AC.enter [] [] Try.func20 rfl (by decide) (by decide) (Nat.le_of_ble_eq_true rfl) (by kernel_rfl) ?_; simp only [eraseC, eraseO, List.map_cons, List.map_nil, List.map_toArray, List.getElem?_toArray, List.getElem?_cons_zero, List.getElem?_cons_succ, Option.bind_some, Option.bind_none]
  have h1 : -11 < n.tmod 11 ∧ n.tmod 11 < 11 := tmod_11 n
  have hw : IntKind.i64.wrap (n.tmod 11) = n.tmod 11 := wrap64 (by omega) (by omega)
  have hw1 : n.tmod 11 < 0 → IntKind.i64.wrap (n.tmod 11 + 11) = n.tmod 11 + 11 := fun _ => wrap64 (by omega) (by omega)
  refine runf @hw ?_
  by_cases h0 : n.tmod 11 < 0
  · have hw1 := hw1 h0
    rw [show pickD n = n.tmod 11 + 11 from if_pos h0]
    refine runf (And.intro @hw @hw1) ?_
    exact er0
  · rw [show pickD n = n.tmod 11 from if_neg h0]
    refine runf @hw ?_
    exact er0
theorem small_c : AC Try.prog 8 [] [] (.bo true) [] := AC.ofBelow (by kernel_rfl) fun w g cargs _ hargs => by
  obtain rfl := lrel_nil hargs
  exact (small_any w).mono fun r w' ⟨e, h⟩ => ⟨_, e, fun g' => .bo _ _, h⟩
def tot (l : List Dm.Act) : Nat := (l.map fun a => a.S.length + a.Keep.length).sum
theorem tot_take {l : List Dm.Act} {k : Nat} (hk : k < l.length) : tot (l.take (k + 1)) = tot (l.take k) + l[k].S.length + l[k].Keep.length := by
  unfold tot
  rw [List.take_succ_eq_append_getElem hk, List.map_append, List.sum_append]
  simp; omega
theorem tot_le {l : List Dm.Act} {B : Nat} (h : ∀ a ∈ l, a.S.length ≤ B ∧ a.Keep.length ≤ B) : tot l ≤ l.length * (2 * B) := by
  induction l with
  | nil => simp [tot]
  | cons a l ih =>
    have := ih fun x hx => h x (by simp [hx])
    have := h a (by simp)
    simp only [tot, List.map_cons, List.sum_cons, List.length_cons, Nat.succ_mul] at *
    omega
theorem few_c (l : List Dm.Act) (hl : l.length ≤ 140737488351232) (h : ∀ a ∈ l, a.S.length ≤ 140737488351232 ∧ a.Keep.length ≤ 140737488351232) : AC Try.prog 17 [.sl .ro (l.map aV)] [] (.bo (decide (l.length ≤ 200) && decide (tot l ≤ 100000))) [] := by
  refine AC.enter [] [] Try.func17 rfl (by decide) (by decide) (Nat.le_of_ble_eq_true rfl) (by kernel_rfl) ?_; simp only [eraseC, eraseO, List.map_cons, List.map_nil, List.map_toArray, List.getElem?_toArray, List.getElem?_cons_zero, List.getElem?_cons_succ, Option.bind_some, Option.bind_none]
  refine run ?_
  refine loop_mk (fun m e S => S = [] ∧ e 0 = .sl .ro (l.map aV) ∧ ∃ (k : Nat) (s : Int), e 4 = .it .i64 (k : Int) ∧ e 3 = .it .i64 s ∧ (l.length ≤ 200 → s = (tot (l.take k) : Int)) ∧ k ≤ l.length ∧ m = l.length - k) l.length ⟨rfl, (by first | rfl | (simp only [↓upd_apply, ↓put_some, ↓reduceIte, Nat.reduceEqDiff, ↓argEnv_zero, ↓argEnv_succ, *]; done)), 0, 0, (by first | rfl | (simp only [↓upd_apply, ↓put_some, ↓reduceIte, Nat.reduceEqDiff, ↓argEnv_zero, ↓argEnv_succ, *]; done)), (by first | rfl | (simp only [↓upd_apply, ↓put_some, ↓reduceIte, Nat.reduceEqDiff, ↓argEnv_zero, ↓argEnv_succ, *]; done)), fun _ => rfl, by omega, rfl⟩ ?_
  rintro m e S ⟨rfl, s0, k, s, s4, s3, hs, hk, rfl⟩
  have hsz : allSz 6 (l.map aV) = true := allSz_map 6 aV (fun _ => rfl) l
  by_cases hlt : k < l.length
  · have ga : l[k]? = some l[k] := List.getElem?_eq_getElem hlt
    have hb := h l[k] (List.getElem_mem hlt)
    refine runf (And.intro @s0 (And.intro @s3 (And.intro @s4 (And.intro @ga @hsz)))) ?_
    refine round_mk (l.length - (k + 1)) (by omega) ⟨rfl, (by first | rfl | (simp only [↓upd_apply, ↓put_some, ↓reduceIte, Nat.reduceEqDiff, ↓argEnv_zero, ↓argEnv_succ, *]; done)), k + 1, _, (by first | rfl | (simp only [↓upd_apply, ↓put_some, ↓reduceIte, Nat.reduceEqDiff, ↓argEnv_zero, ↓argEnv_succ, *]; done)), (by first | rfl | (simp only [↓upd_apply, ↓put_some, ↓reduceIte, Nat.reduceEqDiff, ↓argEnv_zero, ↓argEnv_succ, *]; done)), fun hl2 => ?_, by omega, rfl⟩
    have h1 := tot_le (l := l.take k) (B := 140737488351232) (fun a ha => h a (List.mem_of_mem_take ha))
    have h2 : (l.take k).length ≤ 200 := by rw [List.length_take]; omega
    have h3 : tot (l.take k) ≤ 200 * (2 * 140737488351232) := Nat.le_trans h1 (Nat.mul_le_mul_right _ h2)
    have hs2 := hs hl2
    rw [hs2, tot_take hlt, wrap64 (n := (tot (l.take k) : Int) + (l[k].S.length : Int)) (by omega) (by omega), wrap64 (by omega) (by omega)]
    omega
  · have hge : k = l.length := by omega
    subst hge
    rw [List.take_length] at hs
    refine runf (And.intro @s0 (And.intro @s3 @s4)) ?_
    by_cases h2 : l.length ≤ 200
    · have hs := hs h2
      subst hs
      have d1 : decide (l.length ≤ 200) = true := decide_eq_true h2
      have d2 : decide ((l.length : Int) ≤ 200) = true := decide_eq_true (by omega)
      have d3 : decide ((tot l : Int) ≤ 100000) = decide (tot l ≤ 100000) := by rw [decide_eq_decide]; omega
      refine runf (And.intro @s0 (And.intro @s3 (And.intro @s4 (And.intro @d2 @d3)))) ?_
      try rw [d1]
      exact er0
    · have d1 : decide (l.length ≤ 200) = false := decide_eq_false h2
      have d2 : decide ((l.length : Int) ≤ 200) = false := decide_eq_false (by omega)
      refine runf (And.intro @s0 (And.intro @s3 (And.intro @s4 @d2))) ?_
      try rw [d1]
      exact er0
theorem pickD_cases (n : Int) : 0 ≤ pickD n ∧ pickD n ≤ 10 := by have := tmod_11 n; unfold pickD; split <;> omega
set_option maxHeartbeats 3200000 in
theorem do_c (d : Dk) (a : Dm.Act) (hD : -9223372036854775808 ≤ a.Do ∧ a.Do ≤ 9223372036854775807) (hS : a.S.length ≤ 9223372036854775807) (hN : a.N ≤ 9223372036854775807) (hK : a.Keep.length ≤ 1000000) :
    AC Try.prog 19 [.ptr 0 0, aV a] [XD d] (.tup [.st (doD d a).1.1, .it .i64 (doD d a).1.2]) [XD (doD d a).2] := by
  refine AC.enter [20] [] Try.func19 rfl (by decide) (by decide) (Nat.le_of_ble_eq_true rfl) (by kernel_rfl) ?_; simp only [eraseC, eraseO, List.map_cons, List.map_nil, List.map_toArray, List.getElem?_toArray, List.getElem?_cons_zero, List.getElem?_cons_succ, Option.bind_some, Option.bind_none]
  refine run ?_
  refine cp (pick_c a.Do hD) ?_
  have hp := pickD_cases a.Do
  unfold doD
  generalize pickD a.Do = p at *
  by_cases h01 : p = 0 ∨ p = 1
  · rw [if_pos h01]
    rcases h01 with rfl | rfl
    · refine run ?_
      refine c1 0 (d_append d a.F a.S hS) ?_
      refine run ?_
      exact er1
    · refine run ?_
      refine c1 0 (d_append d a.F a.S hS) ?_
      refine run ?_
      exact er1
  rw [if_neg h01]
  have n0 : p ≠ 0 := fun e => h01 (.inl e)
  have n1 : p ≠ 1 := fun e => h01 (.inr e)
  by_cases h2 : p = 2
  · rw [if_pos h2]
    subst h2
    refine run ?_
    refine c1 0 (d_flush d a.F) ?_
    refine run ?_
    exact er1
  rw [if_neg h2]
  by_cases h3 : p = 3
  · rw [if_pos h3]
    subst h3
    refine run ?_
    refine c1 0 (d_cut d a.F a.N) ?_
    refine run ?_
    exact er1
  rw [if_neg h3]
  by_cases h4 : p = 4
  · rw [if_pos h4]
    subst h4
    refine run ?_
    refine c1 0 (d_turn d a.F a.G) ?_
    refine run ?_
    exact er1
  rw [if_neg h4]
  by_cases h5 : p = 5
  · rw [if_pos h5]
    subst h5
    refine run ?_
    refine c1 0 (d_crash d .ro a.Keep) ?_
    refine run ?_
    exact er1
  rw [if_neg h5]
  by_cases h6 : p = 6
  · rw [if_pos h6]
    subst h6
    refine run ?_
    refine c1 0 (d_lose d a.N hN) ?_
    refine run ?_
    exact er1
  rw [if_neg h6]
  by_cases h7 : p = 7
  · rw [if_pos h7]
    subst h7
    refine run ?_
    refine c1 0 (d_start d) ?_
    refine run ?_
    exact er1
  rw [if_neg h7]
  by_cases h8 : p = 8
  · rw [if_pos h8]
    subst h8
    refine run ?_
    refine c1 0 (d_read d a.F) ?_
    refine run ?_
    exact er1
  rw [if_neg h8]
  by_cases h10 : p = 10
  · rw [if_pos h10]
    subst h10
    refine run ?_
    refine c1 0 (d_arm d a.N hN .ro a.Keep hK) ?_
    refine run ?_
    exact er1
  rw [if_neg h10]
  refine run ?_
  exact er1
/-- a disk after operations -/
def runD (l : List Dm.Act) : Dk := l.foldl (fun d a => (doD d a).2) dk0
theorem runD_take {l : List Dm.Act} {k : Nat} (hk : k < l.length) : runD (l.take (k + 1)) = (doD (runD (l.take k)) l[k]).2 := by
  unfold runD
  rw [List.take_succ_eq_append_getElem hk, List.foldl_append]; rfl
structure Ain (a : Dm.Act) : Prop where
  D : -9223372036854775808 ≤ a.Do ∧ a.Do ≤ 9223372036854775807
  F : -9223372036854775808 ≤ a.F ∧ a.F ≤ 9223372036854775807
  N : -9223372036854775808 ≤ a.N ∧ a.N ≤ 9223372036854775807
  S : a.S.length ≤ 140737488351232
  K : a.Keep.length ≤ 140737488351232
theorem tot_mem {l : List Dm.Act} {a : Dm.Act} (h : a ∈ l) : a.S.length + a.Keep.length ≤ tot l := by
  induction l with
  | nil => cases h
  | cons b l ih =>
    simp only [tot, List.map_cons, List.sum_cons] at *
    rcases List.mem_cons.1 h with rfl | h
    · omega
    · have := ih h; omega
theorem bad_kn {f : Int} (h : f < 0 ∨ 7 < f) : kn f = false := by
  unfold kn
  rcases h with h | h
  · rw [decide_eq_false (show ¬ 0 ≤ f by omega)]; rfl
  · rw [decide_eq_false (show ¬ f < 8 by omega), Bool.and_false]
theorem bad_flush {d : Dk} (h1 : d.down = false) (h2 : d.armed = 0) {f : Int} (hf : kn f = false) : flushD d f = (1, d) := by
  unfold flushD
  rw [bad_begin h1 h2 (by simp [hf])]; rfl
theorem bad_cut {d : Dk} (h1 : d.down = false) (h2 : d.armed = 0) {f : Int} (hf : kn f = false) (n : Int) : cutD d f n = (1, d) := by
  unfold cutD
  rw [bad_begin h1 h2 (by simp [hf])]; rfl
theorem bad_turn {d : Dk} (h1 : d.down = false) (h2 : d.armed = 0) {f g : Int} (hf : kn f = false ∨ kn g = false) : turnD d f g = (1, d) := by
  unfold turnD
  rw [bad_begin h1 h2 (by rcases hf with hf | hf <;> simp [hf])]; rfl
set_option maxHeartbeats 6400000 in
theorem down_c (l : List Dm.Act) (a : Dm.Act) (hl : l.length ≤ 140737488351232) (hin : ∀ a ∈ l, Ain a) (ha : Ain a) : AC Try.prog 7 [.sl .ro (l.map aV), aV a] [] (.bo true) [] := by
  refine AC.enter [8, 17] [] Try.func7 rfl (by decide) (by decide) (Nat.le_of_ble_eq_true rfl) (by kernel_rfl) ?_; simp only [eraseC, eraseO, List.map_cons, List.map_nil, List.map_toArray, List.getElem?_toArray, List.getElem?_cons_zero, List.getElem?_cons_succ, Option.bind_some, Option.bind_none]
  have hS := ha.S
  have hF := ha.F
  refine run ?_
  refine cp small_c ?_
  refine run ?_
  refine call_mk (AC.newAt d_new [.cells (aV a).cells]) ?_
  refine run ?_
  refine cp (few_c l hl fun a h => ⟨(hin a h).S, (hin a h).K⟩) ?_
  by_cases hfew : l.length ≤ 200 ∧ tot l ≤ 100000
  rotate_left
  · have : (decide (l.length ≤ 200) && decide (tot l ≤ 100000)) = false := by simpa using hfew
    refine runf @this ?_
    exact er0
  have hd : (decide (l.length ≤ 200) && decide (tot l ≤ 100000)) = true := by simpa using hfew
  by_cases hS2 : 100000 < a.S.length
  · refine runf @hd ?_
    exact er0
  refine runf @hd ?_
  refine loop_mk (fun m e S => e 0 = .sl .ro (l.map aV) ∧ e 3 = .ptr 0 0 ∧ e 5 = .bo true ∧ e 6 = .ptr 1 0 ∧ ∃ (k : Nat), e 7 = .it .i64 (k : Int) ∧ S = [.cells (aV a).cells, XD (runD (l.take k))] ∧ k ≤ l.length ∧ m = l.length - k) l.length ⟨(by first | rfl | (simp only [↓upd_apply, ↓put_some, ↓reduceIte, Nat.reduceEqDiff, ↓argEnv_zero, ↓argEnv_succ, *]; done)), (by first | rfl | (simp only [↓upd_apply, ↓put_some, ↓reduceIte, Nat.reduceEqDiff, ↓argEnv_zero, ↓argEnv_succ, *]; done)), (by first | rfl | (simp only [↓upd_apply, ↓put_some, ↓reduceIte, Nat.reduceEqDiff, ↓argEnv_zero, ↓argEnv_succ, *]; done)), (by first | rfl | (simp only [↓upd_apply, ↓put_some, ↓reduceIte, Nat.reduceEqDiff, ↓argEnv_zero, ↓argEnv_succ, *]; done)), 0, (by first | rfl | (simp only [↓upd_apply, ↓put_some, ↓reduceIte, Nat.reduceEqDiff, ↓argEnv_zero, ↓argEnv_succ, *]; done)), rfl, by omega, rfl⟩ ?_
  rintro m e S ⟨s0, s3, s5, s6, k, s7, rfl, hk, rfl⟩
  have hsz : allSz 6 (l.map aV) = true := allSz_map 6 aV (fun _ => rfl) l
  by_cases hlt : k < l.length
  · have ga : l[k]? = some l[k] := List.getElem?_eq_getElem hlt
    have hb := hin l[k] (List.getElem_mem hlt)
    have hb2 := tot_mem (List.getElem_mem hlt)
    refine runf (And.intro @s0 (And.intro @s3 (And.intro @s5 (And.intro @s6 (And.intro @s7 (And.intro @ga @hsz)))))) ?_
    refine c1 1 (do_c (runD (l.take k)) l[k] hb.D (by have := hb.S; omega) hb.N.2 (by omega)) ?_
    refine runf (And.intro @s0 (And.intro @s3 (And.intro @s5 (And.intro @s6 @s7)))) ?_
    refine round_mk (l.length - (k + 1)) (by omega) ⟨(by first | rfl | (simp only [↓upd_apply, ↓put_some, ↓reduceIte, Nat.reduceEqDiff, ↓argEnv_zero, ↓argEnv_succ, *]; done)), (by first | rfl | (simp only [↓upd_apply, ↓put_some, ↓reduceIte, Nat.reduceEqDiff, ↓argEnv_zero, ↓argEnv_succ, *]; done)), (by first | rfl | (simp only [↓upd_apply, ↓put_some, ↓reduceIte, Nat.reduceEqDiff, ↓argEnv_zero, ↓argEnv_succ, *]; done)), (by first | rfl | (simp only [↓upd_apply, ↓put_some, ↓reduceIte, Nat.reduceEqDiff, ↓argEnv_zero, ↓argEnv_succ, *]; done)), k + 1, (by first | rfl | (simp only [↓upd_apply, ↓put_some, ↓reduceIte, Nat.reduceEqDiff, ↓argEnv_zero, ↓argEnv_succ, *]; done)), by rw [runD_take hlt], by omega, rfl⟩
  have hge : k = l.length := by omega
  subst hge
  rw [List.take_length]
  generalize runD l = d0
  refine runf (And.intro @s0 (And.intro @s3 (And.intro @s5 (And.intro @s6 @s7)))) ?_
  refine c1 1 (d_arm d0 0 (by omega) .ro [] (by simp)) ?_
  refine runf (And.intro @s0 (And.intro @s3 (And.intro @s5 @s6))) ?_
  refine c1 1 (d_start _) ?_
  generalize hd1 : bring (armD d0 0 []) = d1
  have u1 : d1.down = false := by rw [← hd1]; rfl
  have u2 : d1.armed = 0 := by rw [← hd1]; rfl
  have u3 : d1.keep = [] := by rw [← hd1]; rfl
  clear hd1
  by_cases hA : a.F < 0
  focus
    have hk : kn a.F = false := bad_kn (by omega)
    have q1 := d_append d1 a.F a.S (by omega)
    rw [bad_append u1 u2 hk] at q1
    have q2 := d_flush d1 a.F
    rw [bad_flush u1 u2 hk] at q2
    have q3 := d_cut d1 a.F 0
    rw [bad_cut u1 u2 hk] at q3
    have q4 := d_turn d1 a.F 1
    rw [bad_turn u1 u2 (.inl hk)] at q4
    have q5 := d_turn d1 1 a.F
    rw [bad_turn u1 u2 (.inr hk)] at q5
    have q6 := d_size d1 a.F
    rw [show size d1 a.F = 0 from by unfold size; rw [hk]; rfl] at q6
    refine runf (And.intro @s0 (And.intro @s3 (And.intro @s5 @s6))) ?_
    refine c1 1 q1 ?_
    refine runf (And.intro @s0 (And.intro @s3 (And.intro @s5 @s6))) ?_
    refine c1 1 q2 ?_
    refine runf (And.intro @s0 (And.intro @s3 (And.intro @s5 @s6))) ?_
    refine c1 1 q3 ?_
    refine runf (And.intro @s0 (And.intro @s3 (And.intro @s5 @s6))) ?_
    refine c1 1 q4 ?_
    refine runf (And.intro @s0 (And.intro @s3 (And.intro @s5 @s6))) ?_
    refine c1 1 q5 ?_
    refine runf (And.intro @s0 (And.intro @s3 (And.intro @s5 @s6))) ?_
    refine c1 1 q6 ?_
    refine runf (And.intro @s0 (And.intro @s3 (And.intro @s5 @s6))) ?_
    refine c1 1 (d_crash d1 .ro []) ?_
    refine runf (And.intro @s0 (And.intro @s3 (And.intro @s5 @s6))) ?_
  rotate_left
  by_cases hB : 7 < a.F
  focus
    have hk : kn a.F = false := bad_kn (by omega)
    have q1 := d_append d1 a.F a.S (by omega)
    rw [bad_append u1 u2 hk] at q1
    have q2 := d_flush d1 a.F
    rw [bad_flush u1 u2 hk] at q2
    have q3 := d_cut d1 a.F 0
    rw [bad_cut u1 u2 hk] at q3
    have q4 := d_turn d1 a.F 1
    rw [bad_turn u1 u2 (.inl hk)] at q4
    have q5 := d_turn d1 1 a.F
    rw [bad_turn u1 u2 (.inr hk)] at q5
    have q6 := d_size d1 a.F
    rw [show size d1 a.F = 0 from by unfold size; rw [hk]; rfl] at q6
    refine runf (And.intro @s0 (And.intro @s3 (And.intro @s5 @s6))) ?_
    refine c1 1 q1 ?_
    refine runf (And.intro @s0 (And.intro @s3 (And.intro @s5 @s6))) ?_
    refine c1 1 q2 ?_
    refine runf (And.intro @s0 (And.intro @s3 (And.intro @s5 @s6))) ?_
    refine c1 1 q3 ?_
    refine runf (And.intro @s0 (And.intro @s3 (And.intro @s5 @s6))) ?_
    refine c1 1 q4 ?_
    refine runf (And.intro @s0 (And.intro @s3 (And.intro @s5 @s6))) ?_
    refine c1 1 q5 ?_
    refine runf (And.intro @s0 (And.intro @s3 (And.intro @s5 @s6))) ?_
    refine c1 1 q6 ?_
    refine runf (And.intro @s0 (And.intro @s3 (And.intro @s5 @s6))) ?_
    refine c1 1 (d_crash d1 .ro []) ?_
    refine runf (And.intro @s0 (And.intro @s3 (And.intro @s5 @s6))) ?_
  rotate_left
  focus
    refine runf (And.intro @s0 (And.intro @s3 (And.intro @s5 @s6))) ?_
    refine c1 1 (d_crash d1 .ro []) ?_
    refine runf (And.intro @s0 (And.intro @s3 (And.intro @s5 @s6))) ?_
  all_goals
    generalize hd2 : crash d1 [] = d2
    have v1 : d2.down = true := by rw [← hd2]; unfold crash; rw [u1]; rfl
    have v2 : d2.keep = [] := by rw [← hd2]; unfold crash; rw [u1]; rfl
    refine call_mk (d_copy d2 (by rw [v2]; simp) [.cells (aV a).cells, XD d2] 1 rfl) ?_
    refine runf (And.intro @s0 (And.intro @s3 (And.intro @s5 @s6))) ?_
    refine c1 2 (d_start d2) ?_
    have q1 := d_append d2 a.F a.S (by omega)
    rw [down_append v1] at q1
    have q2 := d_flush d2 a.F
    rw [down_flush v1] at q2
    have q3 := d_cut d2 a.F a.N
    rw [down_cut v1] at q3
    have q4 := d_turn d2 a.F a.G
    rw [down_turn v1] at q4
    have q5 := d_read d2 a.F
    rw [down_peek v1] at q5
    have q6 := d_down d2
    rw [v1] at q6
    have q7 := d_crash d2 .ro [1, 1]
    rw [down_crash v1] at q7
    refine runf (And.intro @s0 (And.intro @s3 (And.intro @s5 @s6))) ?_
    refine c1 1 q5 ?_
    refine runf (And.intro @s0 (And.intro @s3 (And.intro @s5 @s6))) ?_
    refine c1 1 q7 ?_
    refine runf (And.intro @s0 (And.intro @s3 (And.intro @s5 @s6))) ?_
    refine c1 1 q1 ?_
    refine runf (And.intro @s0 (And.intro @s3 (And.intro @s5 @s6))) ?_
    refine c1 1 q2 ?_
    refine runf (And.intro @s0 (And.intro @s3 (And.intro @s5 @s6))) ?_
    refine c1 1 q3 ?_
    refine runf (And.intro @s0 (And.intro @s3 (And.intro @s5 @s6))) ?_
    refine c1 1 q4 ?_
    refine runf (And.intro @s0 (And.intro @s3 (And.intro @s5 @s6))) ?_
    refine c1 1 q6 ?_
    refine runf (And.intro @s0 (And.intro @s3 (And.intro @s5 @s6))) ?_
    refine c1 1 (d_start d2) ?_
    generalize hd3 : bring d2 = d3
    have w1 : d3.down = false := by rw [← hd3]; rfl
    refine runf (And.intro @s0 (And.intro @s3 (And.intro @s5 @s6))) ?_
    refine loop_mk (fun m e S => e 5 = .bo true ∧ e 6 = .ptr 1 0 ∧ e 8 = .ptr 2 0 ∧ ∃ (k : Nat), e 11 = .it .i64 (k : Int) ∧ S = [.cells (aV a).cells, XD d3, XD d3] ∧ k ≤ 8 ∧ m = 8 - k) 8 ⟨(by first | rfl | (simp only [↓upd_apply, ↓put_some, ↓reduceIte, Nat.reduceEqDiff, ↓argEnv_zero, ↓argEnv_succ, *]; done)), (by first | rfl | (simp only [↓upd_apply, ↓put_some, ↓reduceIte, Nat.reduceEqDiff, ↓argEnv_zero, ↓argEnv_succ, *]; done)), (by first | rfl | (simp only [↓upd_apply, ↓put_some, ↓reduceIte, Nat.reduceEqDiff, ↓argEnv_zero, ↓argEnv_succ, *]; done)), 0, (by first | rfl | (simp only [↓upd_apply, ↓put_some, ↓reduceIte, Nat.reduceEqDiff, ↓argEnv_zero, ↓argEnv_succ, *]; done)), rfl, by omega, rfl⟩ ?_
    rintro m e S ⟨t5, t6, t8, k, t11, rfl, hk, rfl⟩
    by_cases hlt : k < 8
    focus
      have hx : ((peek d3 k).1 != (peek d3 k).1) = false := by simp
      refine runf (And.intro @t5 (And.intro @t6 (And.intro @t8 @t11))) ?_
      refine c1 1 (d_read d3 k) ?_
      refine runf (And.intro @t5 (And.intro @t6 (And.intro @t8 @t11))) ?_
      refine c1 2 (d_read d3 k) ?_
      refine runf (And.intro @t5 (And.intro @t6 (And.intro @t8 (And.intro @t11 @hx)))) ?_
      exact round_mk (8 - (k + 1)) (by omega) ⟨(by first | rfl | (simp only [↓upd_apply, ↓put_some, ↓reduceIte, Nat.reduceEqDiff, ↓argEnv_zero, ↓argEnv_succ, *]; done)), (by first | rfl | (simp only [↓upd_apply, ↓put_some, ↓reduceIte, Nat.reduceEqDiff, ↓argEnv_zero, ↓argEnv_succ, *]; done)), (by first | rfl | (simp only [↓upd_apply, ↓put_some, ↓reduceIte, Nat.reduceEqDiff, ↓argEnv_zero, ↓argEnv_succ, *]; done)), k + 1, (by first | rfl | (simp only [↓upd_apply, ↓put_some, ↓reduceIte, Nat.reduceEqDiff, ↓argEnv_zero, ↓argEnv_succ, *]; done)), rfl, by omega, rfl⟩
    have q8 := d_down d3
    rw [w1] at q8
    refine runf (And.intro @t5 (And.intro @t6 (And.intro @t8 @t11))) ?_
    refine c1 1 q8 ?_
    refine runf (And.intro @t5 (And.intro @t6 (And.intro @t8 @t11))) ?_
    exact er0
end Go.Proofs.Ytknbnhmenohacaa.Pe
