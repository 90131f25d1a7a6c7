/- The walk of DiskLasts on plain values. -/
import Derived.Test.YtknbnhmenohacaaDiskQ
import Derived.Test.YtknbnhmenohacaaDiskPe
namespace Go.Proofs.Ytknbnhmenohacaa.Pe
set_option linter.unusedSectionVars false
set_option linter.unusedVariables false
set_option linter.unusedSimpArgs false
open Go Dm
variable [Tab]
set_option maxRecDepth 100000
theorem begins_c (s t : List UInt8) (hs : s.length ≤ 4611686018427387904) (ht : t.length ≤ 4611686018427387904) : AC Try.prog 21 [.st s, .st t] [] (.bo (decide (t.length ≤ s.length) && s.take t.length == t)) [] := by
  refine AC.enter [] [] Try.func21 rfl (by decide) (by decide) (Nat.le_of_ble_eq_true rfl) (by kernel_rfl) ?_; simp only [eraseC, eraseO, List.map_cons, List.map_nil, List.map_toArray, List.getElem?_toArray, List.getElem?_cons_zero, List.getElem?_cons_succ, Option.bind_some, Option.bind_none]
  by_cases h : t.length ≤ s.length
  · have h1 : decide (t.length ≤ s.length) = true := decide_eq_true h
    have h2 : decide ((t.length : Int) ≤ (s.length : Int)) = true := decide_eq_true (by omega)
    rw [h1]
    refine runf @h2 ?_
    exact er0
  · have h1 : decide (t.length ≤ s.length) = false := decide_eq_false h
    have h2 : decide ((t.length : Int) ≤ (s.length : Int)) = false := decide_eq_false (by omega)
    rw [h1]
    refine runf @h2 ?_
    exact er0
theorem begins_t {s t : List UInt8} (h : t.length ≤ s.length) (e : s.take t.length = t) : (decide (t.length ≤ s.length) && s.take t.length == t) = true := by
  rw [decide_eq_true h, e]; simp
theorem pr_begins {s : List UInt8} {f : Fl} (h : Pr s f) (hf : f.Ok) : s.length ≤ f.data.length ∧ f.data.take s.length = s := by
  have := h.le; have := hf.dur; exact ⟨by omega, h.eq⟩
theorem peek_up {d : Dk} (h : d.down = false) {f : Int} (h0 : 0 ≤ f) (h8 : f < 8) : peek d f = ((d.fs f.toNat).data, 0) := by
  unfold peek
  rw [if_neg (by simp [h])]
  have : kn f = true := by unfold kn; simp [h0, h8]
  rw [if_pos this]
theorem take_min (l : List UInt8) (n : Nat) : l.take (min n l.length) = l.take n := by
  rcases Nat.le_total n l.length with h | h
  · rw [Nat.min_eq_left h]
  · rw [Nat.min_eq_right h, List.take_length, List.take_of_length_le h]
theorem set_self {sf : List (List UInt8)} {i : Nat} {t : List UInt8} (h : sf[i]? = some t) : sf.set i t = sf := by
  refine List.ext_getElem? fun j => ?_
  by_cases e : i = j
  · subst e
    rw [List.getElem?_set_self (List.getElem?_eq_some_iff.1 h).1, h]
  · rw [List.getElem?_set_ne e]
set_option maxHeartbeats 12800000 in
theorem lasts_c (l : List Dm.Act) (keep : List Int) (hl : l.length ≤ 140737488351232) (hin : ∀ a ∈ l, Ain a) : AC Try.prog 4 [.sl .ro (l.map aV), ints .ro keep] [] (.bo true) [] := by
  refine AC.enter [8, 17, 20, 21] [] Try.func4 rfl (by decide) (by decide) (Nat.le_of_ble_eq_true rfl) (by kernel_rfl) ?_; simp only [eraseC, eraseO, List.map_cons, List.map_nil, List.map_toArray, List.getElem?_toArray, List.getElem?_cons_zero, List.getElem?_cons_succ, Option.bind_some, Option.bind_none]
  refine run ?_
  refine cp small_c ?_
  refine run ?_
  refine call_mk (AC.newAt d_new []) ?_
  refine run ?_
  refine cp (few_c l hl fun a h => ⟨(hin a h).S, (hin a h).K⟩) ?_
  by_cases hfew : l.length ≤ 200 ∧ tot l ≤ 100000
  rotate_left
  · have : (decide (l.length ≤ 200) && decide (tot l ≤ 100000)) = false := by simpa using hfew
    refine runf @this ?_
    exact er0
  have hd : (decide (l.length ≤ 200) && decide (tot l ≤ 100000)) = true := by simpa using hfew
  refine runf @hd ?_
  refine loop_mk (fun m e S => e 0 = .sl .ro (l.map aV) ∧ e 1 = ints .ro keep ∧ e 5 = .bo true ∧ e 6 = .ptr 0 0 ∧ e 7 = .ws 1 0 8 8 ∧ ∃ (k : Nat) (d : Dk) (sf : List (List UInt8)) (T : Store), e 8 = .it .i64 (k : Int) ∧ S = XD d :: .cells (sf.map .st) :: T ∧ Dm.Safe d sf ∧ Ok d ∧ Still d ∧ k ≤ l.length ∧ m = l.length - k) l.length
    ⟨(by first | rfl | (simp only [↓upd_apply, ↓put_some, ↓reduceIte, Nat.reduceEqDiff, ↓argEnv_zero, ↓argEnv_succ, *]; done)), (by first | rfl | (simp only [↓upd_apply, ↓put_some, ↓reduceIte, Nat.reduceEqDiff, ↓argEnv_zero, ↓argEnv_succ, *]; done)), (by first | rfl | (simp only [↓upd_apply, ↓put_some, ↓reduceIte, Nat.reduceEqDiff, ↓argEnv_zero, ↓argEnv_succ, *]; done)), (by first | rfl | (simp only [↓upd_apply, ↓put_some, ↓reduceIte, Nat.reduceEqDiff, ↓argEnv_zero, ↓argEnv_succ, *]; done)), (by first | rfl | (simp only [↓upd_apply, ↓put_some, ↓reduceIte, Nat.reduceEqDiff, ↓argEnv_zero, ↓argEnv_succ, *]; done)), 0, dk0, List.replicate 8 [], [], (by first | rfl | (simp only [↓upd_apply, ↓put_some, ↓reduceIte, Nat.reduceEqDiff, ↓argEnv_zero, ↓argEnv_succ, *]; done)), rfl, ⟨rfl, fun i s hs => ?_⟩, dk0_ok, still_up rfl, by omega, rfl⟩ ?_
  · have : s = [] := List.eq_of_mem_replicate (List.mem_of_getElem? hs)
    subst this
    exact ⟨Nat.le_refl _, rfl⟩
  rintro m e S ⟨s0, s1, s5, s6, s7, k, d, sf, T, s8, rfl, hsafe, hok, hst, hk, rfl⟩
  have hsz : allSz 6 (l.map aV) = true := allSz_map 6 aV (fun _ => rfl) l
  by_cases hlt : k < l.length
  · have ga : l[k]? = some l[k] := List.getElem?_eq_getElem hlt
    have hb := hin l[k] (List.getElem_mem hlt)
    have hb2 := tot_mem (List.getElem_mem hlt)
    generalize l[k] = a at *
    have hT1 : ∀ x : SObj, (T ++ [x])[T.length]? = some x := fun x => by simp
    have hT2 : ∀ x y : SObj, (T ++ [x]).set T.length y = T ++ [y] := fun x y => by simp
    refine runf (And.intro @s0 (And.intro @s1 (And.intro @s5 (And.intro @s6 (And.intro @s7 (And.intro @s8 (And.intro @ga (And.intro @hsz (And.intro @hT1 @hT2))))))))) ?_
    refine c1 0 (d_down d) ?_
    refine runf (And.intro @s0 (And.intro @s1 (And.intro @s5 (And.intro @s6 (And.intro @s7 (And.intro @s8 (And.intro @hT1 @hT2))))))) ?_
    have hdo := do_c d a hb.D (by have := hb.S; omega) hb.N.2 (by omega)
    have hgo := goes_do hsafe hok hst a
    have hok' := doD_ok hok a hb.N.2
    generalize doD d a = r at *
    obtain ⟨⟨rs, re⟩, d'⟩ := r
    simp only at hdo hgo hok'
    obtain ⟨g2, g3, g4, gs, gst⟩ := hgo
    refine c1 0 hdo ?_
    refine runf (And.intro @s0 (And.intro @s1 (And.intro @s5 (And.intro @s6 (And.intro @s7 (And.intro @s8 (And.intro @hT1 @hT2))))))) ?_
    refine cp (pick_c a.Do hb.D) ?_
    generalize pickD a.Do = p at *
    have m1 : ∀ n : Nat, n * 1 = n := Nat.mul_one
    have hlen := hsafe.1
    have hdt : ∀ q, (d'.fs q).data.length ≤ 16777216 := fun q => (hok'.fs q).len
    by_cases c2 : p = 2 ∧ re = 0
    focus
      obtain ⟨rfl, rfl⟩ := c2
      obtain ⟨f0, f8, hdn, hsf⟩ := g2 rfl rfl
      have hpk := d_read d' a.F
      rw [peek_up hdn f0 f8] at hpk
      refine runf (And.intro @s0 (And.intro @s1 (And.intro @s5 (And.intro @s6 (And.intro @s7 (And.intro @s8 (And.intro @hT1 (And.intro @hT2 @m1)))))))) ?_
      refine c1 0 hpk ?_
      refine runf (And.intro @s0 (And.intro @s1 (And.intro @s5 (And.intro @s6 (And.intro @s7 (And.intro @s8 (And.intro @hT1 (And.intro @hT2 @m1)))))))) ?_
      generalize sf.set a.F.toNat (d'.fs a.F.toNat).data = sf2 at *
    rotate_left
    by_cases c3 : p = 3 ∧ re = 0
    focus
      obtain ⟨rfl, rfl⟩ := c3
      obtain ⟨f0, f8, n0, hdn, hsf⟩ := g3 rfl rfl
      have ht : sf[a.F.toNat]? = some (sf[a.F.toNat]'(by omega)) := List.getElem?_eq_getElem (by omega)
      generalize sf[a.F.toNat]'(by omega) = t at *
      have hsf := hsf t ht
      by_cases hn : a.N < (t.length : Int)
      focus
        have hm : min a.N.toNat t.length = a.N.toNat := by omega
        refine runf (And.intro @s0 (And.intro @s1 (And.intro @s5 (And.intro @s6 (And.intro @s7 (And.intro @s8 (And.intro @hT1 (And.intro @hT2 (And.intro @m1 @ht))))))))) ?_
        generalize sf.set a.F.toNat (t.take a.N.toNat) = sf2 at *
      rotate_left
      focus
        rw [List.take_of_length_le (by omega), set_self ht] at hsf
        refine runf (And.intro @s0 (And.intro @s1 (And.intro @s5 (And.intro @s6 (And.intro @s7 (And.intro @s8 (And.intro @hT1 (And.intro @hT2 (And.intro @m1 @ht))))))))) ?_
        generalize sf = sf2 at *
    rotate_left
    rotate_left
    by_cases c4 : p = 4 ∧ re = 0
    focus
      obtain ⟨rfl, rfl⟩ := c4
      obtain ⟨f0, f8, n0, n8, hdn, hsf⟩ := g4 rfl rfl
      have ht : sf[a.G.toNat]? = some (sf[a.G.toNat]'(by omega)) := List.getElem?_eq_getElem (by omega)
      generalize sf[a.G.toNat]'(by omega) = t at *
      have hsf := hsf t ht
      have hlen2 : (sf.set a.F.toNat t).length = 8 := by rw [List.length_set]; exact hlen
      refine runf (And.intro @s0 (And.intro @s1 (And.intro @s5 (And.intro @s6 (And.intro @s7 (And.intro @s8 (And.intro @hT1 (And.intro @hT2 (And.intro @m1 @ht))))))))) ?_
      generalize (sf.set a.F.toNat t).set a.G.toNat [] = sf2 at *
    rotate_left
    have hsf := gs c3 c4
    generalize sf = sf2 at *
    by_cases e2 : p = 2
    focus
      subst e2
      have hre : ¬ re = 0 := fun e => c2 ⟨rfl, e⟩
      refine runf (And.intro @s0 (And.intro @s1 (And.intro @s5 (And.intro @s6 (And.intro @s7 (And.intro @s8 (And.intro @hT1 (And.intro @hT2 @m1)))))))) ?_
    rotate_left
    by_cases e3 : p = 3
    focus
      subst e3
      have hre : ¬ re = 0 := fun e => c3 ⟨rfl, e⟩
      refine runf (And.intro @s0 (And.intro @s1 (And.intro @s5 (And.intro @s6 (And.intro @s7 (And.intro @s8 (And.intro @hT1 (And.intro @hT2 @m1)))))))) ?_
    rotate_left
    by_cases e4 : p = 4
    focus
      subst e4
      have hre : ¬ re = 0 := fun e => c4 ⟨rfl, e⟩
      refine runf (And.intro @s0 (And.intro @s1 (And.intro @s5 (And.intro @s6 (And.intro @s7 (And.intro @s8 (And.intro @hT1 (And.intro @hT2 @m1)))))))) ?_
    rotate_left
    focus
      refine runf (And.intro @s0 (And.intro @s1 (And.intro @s5 (And.intro @s6 (And.intro @s7 (And.intro @s8 (And.intro @hT1 (And.intro @hT2 @m1)))))))) ?_
    all_goals
      clear g2 g3 g4 gs
      clear hdo hsafe hsz hlen
      have hlen := hsf.1
      by_cases hdd : d.down = true
      focus
        refine runf (And.intro @s0 (And.intro @s1 (And.intro @s5 (And.intro @s6 (And.intro @s7 (And.intro @s8 @hdd)))))) ?_
        exact round_mk (l.length - (k + 1)) (by omega) ⟨(by first | rfl | (simp only [↓upd_apply, ↓put_some, ↓reduceIte, Nat.reduceEqDiff, ↓argEnv_zero, ↓argEnv_succ, *]; done)), (by first | rfl | (simp only [↓upd_apply, ↓put_some, ↓reduceIte, Nat.reduceEqDiff, ↓argEnv_zero, ↓argEnv_succ, *]; done)), (by first | rfl | (simp only [↓upd_apply, ↓put_some, ↓reduceIte, Nat.reduceEqDiff, ↓argEnv_zero, ↓argEnv_succ, *]; done)), (by first | rfl | (simp only [↓upd_apply, ↓put_some, ↓reduceIte, Nat.reduceEqDiff, ↓argEnv_zero, ↓argEnv_succ, *]; done)), (by first | rfl | (simp only [↓upd_apply, ↓put_some, ↓reduceIte, Nat.reduceEqDiff, ↓argEnv_zero, ↓argEnv_succ, *]; done)), k + 1, d', sf2, _, (by first | rfl | (simp only [↓upd_apply, ↓put_some, ↓reduceIte, Nat.reduceEqDiff, ↓argEnv_zero, ↓argEnv_succ, *]; done)), rfl, hsf, hok', gst, by omega, rfl⟩
      have hdd : d.down = false := by simpa using hdd
      have hq := d_down d'
      refine runf (And.intro @s0 (And.intro @s1 (And.intro @s5 (And.intro @s6 (And.intro @s7 (And.intro @s8 @hdd)))))) ?_
      refine c1 0 hq ?_
      by_cases hdn' : d'.down = true
      rotate_left
      focus
        have hdn' : d'.down = false := by simpa using hdn'
        refine runf (And.intro @s0 (And.intro @s1 (And.intro @s5 (And.intro @s6 (And.intro @s7 (And.intro @s8 @hdn')))))) ?_
        exact round_mk (l.length - (k + 1)) (by omega) ⟨(by first | rfl | (simp only [↓upd_apply, ↓put_some, ↓reduceIte, Nat.reduceEqDiff, ↓argEnv_zero, ↓argEnv_succ, *]; done)), (by first | rfl | (simp only [↓upd_apply, ↓put_some, ↓reduceIte, Nat.reduceEqDiff, ↓argEnv_zero, ↓argEnv_succ, *]; done)), (by first | rfl | (simp only [↓upd_apply, ↓put_some, ↓reduceIte, Nat.reduceEqDiff, ↓argEnv_zero, ↓argEnv_succ, *]; done)), (by first | rfl | (simp only [↓upd_apply, ↓put_some, ↓reduceIte, Nat.reduceEqDiff, ↓argEnv_zero, ↓argEnv_succ, *]; done)), (by first | rfl | (simp only [↓upd_apply, ↓put_some, ↓reduceIte, Nat.reduceEqDiff, ↓argEnv_zero, ↓argEnv_succ, *]; done)), k + 1, d', sf2, _, (by first | rfl | (simp only [↓upd_apply, ↓put_some, ↓reduceIte, Nat.reduceEqDiff, ↓argEnv_zero, ↓argEnv_succ, *]; done)), rfl, hsf, hok', gst, by omega, rfl⟩
      refine runf (And.intro @s0 (And.intro @s1 (And.intro @s5 (And.intro @s6 (And.intro @s7 (And.intro @s8 @hdn')))))) ?_
      refine c1 0 (d_start d') ?_
      refine runf (And.intro @s0 (And.intro @s1 (And.intro @s5 (And.intro @s6 (And.intro @s7 @s8))))) ?_
      refine loop_mk (fun m e S => e 0 = .sl .ro (l.map aV) ∧ e 1 = ints .ro keep ∧ e 5 = .bo true ∧ e 6 = .ptr 0 0 ∧ e 7 = .ws 1 0 8 8 ∧ e 8 = .it .i64 (k : Int) ∧ ∃ (f : Nat) (sf3 : List (List UInt8)) (T2 : Store), e 16 = .it .i64 (f : Int) ∧ S = XD (bring d') :: .cells (sf3.map .st) :: T2 ∧ sf3.length = 8 ∧
          (∀ i s, sf3[i]? = some s → (i < f → s = (d'.fs i).data) ∧ Pr s (d'.fs i)) ∧ f ≤ 8 ∧ m = 8 - f) 8 ⟨(by first | rfl | (simp only [↓upd_apply, ↓put_some, ↓reduceIte, Nat.reduceEqDiff, ↓argEnv_zero, ↓argEnv_succ, *]; done)), (by first | rfl | (simp only [↓upd_apply, ↓put_some, ↓reduceIte, Nat.reduceEqDiff, ↓argEnv_zero, ↓argEnv_succ, *]; done)), (by first | rfl | (simp only [↓upd_apply, ↓put_some, ↓reduceIte, Nat.reduceEqDiff, ↓argEnv_zero, ↓argEnv_succ, *]; done)), (by first | rfl | (simp only [↓upd_apply, ↓put_some, ↓reduceIte, Nat.reduceEqDiff, ↓argEnv_zero, ↓argEnv_succ, *]; done)), (by first | rfl | (simp only [↓upd_apply, ↓put_some, ↓reduceIte, Nat.reduceEqDiff, ↓argEnv_zero, ↓argEnv_succ, *]; done)), (by first | rfl | (simp only [↓upd_apply, ↓put_some, ↓reduceIte, Nat.reduceEqDiff, ↓argEnv_zero, ↓argEnv_succ, *]; done)), 0, sf2, _, (by first | rfl | (simp only [↓upd_apply, ↓put_some, ↓reduceIte, Nat.reduceEqDiff, ↓argEnv_zero, ↓argEnv_succ, *]; done)), rfl, hlen, fun i s hs => ⟨fun h => by omega, hsf.2 i s hs⟩, by omega, rfl⟩ ?_
      clear hT1 hT2 hq
      rintro m e S ⟨t0, t1, t5, t6, t7, t8, f, sf3, T2, t16, rfl, hl3, hp3, hf, rfl⟩
      by_cases hlf : f < 8
      focus
        have gf : sf3[f]? = some (sf3[f]'(by omega)) := List.getElem?_eq_getElem (by omega)
        generalize sf3[f]'(by omega) = t at *
        have hpr := pr_begins (hp3 f t gf).2 (hok'.fs f)
        have hdl := (hok'.fs f).len
        have hrd := d_read (bring d') f
        rw [peek_up (d := bring d') rfl (by omega) (by omega)] at hrd
        have hbg := begins_c (d'.fs f).data t (by omega) (by omega)
        rw [begins_t hpr.1 hpr.2] at hbg
        refine runf (And.intro @t0 (And.intro @t1 (And.intro @t5 (And.intro @t6 (And.intro @t7 (And.intro @t8 @t16)))))) ?_
        refine c1 0 hrd ?_
        refine runf (And.intro @t0 (And.intro @t1 (And.intro @t5 (And.intro @t6 (And.intro @t7 (And.intro @t8 (And.intro @t16 (And.intro @gf @m1)))))))) ?_
        refine cp hbg ?_
        refine runf (And.intro @t0 (And.intro @t1 (And.intro @t5 (And.intro @t6 (And.intro @t7 (And.intro @t8 (And.intro @t16 @m1))))))) ?_
        refine round_mk (8 - (f + 1)) (by omega) ⟨(by first | rfl | (simp only [↓upd_apply, ↓put_some, ↓reduceIte, Nat.reduceEqDiff, ↓argEnv_zero, ↓argEnv_succ, *]; done)), (by first | rfl | (simp only [↓upd_apply, ↓put_some, ↓reduceIte, Nat.reduceEqDiff, ↓argEnv_zero, ↓argEnv_succ, *]; done)), (by first | rfl | (simp only [↓upd_apply, ↓put_some, ↓reduceIte, Nat.reduceEqDiff, ↓argEnv_zero, ↓argEnv_succ, *]; done)), (by first | rfl | (simp only [↓upd_apply, ↓put_some, ↓reduceIte, Nat.reduceEqDiff, ↓argEnv_zero, ↓argEnv_succ, *]; done)), (by first | rfl | (simp only [↓upd_apply, ↓put_some, ↓reduceIte, Nat.reduceEqDiff, ↓argEnv_zero, ↓argEnv_succ, *]; done)), (by first | rfl | (simp only [↓upd_apply, ↓put_some, ↓reduceIte, Nat.reduceEqDiff, ↓argEnv_zero, ↓argEnv_succ, *]; done)), f + 1, sf3.set f (d'.fs f).data, T2, (by first | rfl | (simp only [↓upd_apply, ↓put_some, ↓reduceIte, Nat.reduceEqDiff, ↓argEnv_zero, ↓argEnv_succ, *]; done)), rfl, by rw [List.length_set]; exact hl3, fun i s hs => ?_, by omega, rfl⟩
        by_cases hif : i = f
        · subst hif
          rw [List.getElem?_set_self (by omega)] at hs
          cases hs
          refine ⟨fun _ => rfl, ?_, List.take_length⟩
          have := gst hdn' i
          omega
        · rw [List.getElem?_set_ne (fun e => hif e.symm)] at hs
          exact ⟨fun h => (hp3 i s hs).1 (by omega), (hp3 i s hs).2⟩
      obtain rfl : f = 8 := by omega
      refine runf (And.intro @t0 (And.intro @t1 (And.intro @t5 (And.intro @t6 (And.intro @t7 (And.intro @t8 @t16)))))) ?_
      refine c1 0 (d_crash (bring d') .ro []) ?_
      refine runf (And.intro @t0 (And.intro @t1 (And.intro @t5 (And.intro @t6 (And.intro @t7 (And.intro @t8 @t16)))))) ?_
      refine round_mk (l.length - (k + 1)) (by omega) ⟨(by first | rfl | (simp only [↓upd_apply, ↓put_some, ↓reduceIte, Nat.reduceEqDiff, ↓argEnv_zero, ↓argEnv_succ, *]; done)), (by first | rfl | (simp only [↓upd_apply, ↓put_some, ↓reduceIte, Nat.reduceEqDiff, ↓argEnv_zero, ↓argEnv_succ, *]; done)), (by first | rfl | (simp only [↓upd_apply, ↓put_some, ↓reduceIte, Nat.reduceEqDiff, ↓argEnv_zero, ↓argEnv_succ, *]; done)), (by first | rfl | (simp only [↓upd_apply, ↓put_some, ↓reduceIte, Nat.reduceEqDiff, ↓argEnv_zero, ↓argEnv_succ, *]; done)), (by first | rfl | (simp only [↓upd_apply, ↓put_some, ↓reduceIte, Nat.reduceEqDiff, ↓argEnv_zero, ↓argEnv_succ, *]; done)), k + 1, crash (bring d') [], sf3, T2, (by first | rfl | (simp only [↓upd_apply, ↓put_some, ↓reduceIte, Nat.reduceEqDiff, ↓argEnv_zero, ↓argEnv_succ, *]; done)), rfl, safe_noted gst hdn' hl3 (fun i s hs => (hp3 i s hs).1 (by have := (List.getElem?_eq_some_iff.1 hs).1; omega)), crash_ok (bring_ok hok') [], still_crash (still_up rfl) (bring_ok hok') [], by omega, rfl⟩
  have hge : k = l.length := by omega
  subst hge
  refine runf (And.intro @s0 (And.intro @s1 (And.intro @s5 (And.intro @s6 (And.intro @s7 @s8))))) ?_
  refine c1 0 (d_arm d 0 (by omega) .ro [] (by simp)) ?_
  refine runf (And.intro @s0 (And.intro @s1 (And.intro @s5 (And.intro @s6 (And.intro @s7 @s8))))) ?_
  refine c1 0 (d_start _) ?_
  have hsf1 : Dm.Safe (bring (armD d 0 [])) sf := hsafe.fs rfl
  have hok1 : Ok (bring (armD d 0 [])) := bring_ok (arm_ok hok 0 (by omega) [])
  have hup : (bring (armD d 0 [])).down = false := rfl
  generalize bring (armD d 0 []) = d1 at *
  have hT1 : ∀ x : SObj, (T ++ [x])[T.length]? = some x := fun x => by simp
  have hT2 : ∀ x y : SObj, (T ++ [x]).set T.length y = T ++ [y] := fun x y => by simp
  have m1 : ∀ n : Nat, n * 1 = n := Nat.mul_one
  refine runf (And.intro @s0 (And.intro @s1 (And.intro @s5 (And.intro @s6 (And.intro @s7 @s8))))) ?_
  refine loop_mk (fun m e S => e 1 = ints .ro keep ∧ e 5 = .bo true ∧ e 6 = .ptr 0 0 ∧ e 7 = .ws 1 0 8 8 ∧ e 19 = .ws (T.length + 1 + 1) 0 8 8 ∧ ∃ (f : Nat) (wf : List (List UInt8)), e 20 = .it .i64 (f : Int) ∧ S = XD d1 :: .cells (sf.map .st) :: (T ++ [.cells (wf.map .st)]) ∧ wf.length = 8 ∧ (∀ i, i < f → wf[i]? = some (d1.fs i).data) ∧ f ≤ 8 ∧ m = 8 - f) 8
    ⟨(by first | rfl | (simp only [↓upd_apply, ↓put_some, ↓reduceIte, Nat.reduceEqDiff, ↓argEnv_zero, ↓argEnv_succ, *]; done)), (by first | rfl | (simp only [↓upd_apply, ↓put_some, ↓reduceIte, Nat.reduceEqDiff, ↓argEnv_zero, ↓argEnv_succ, *]; done)), (by first | rfl | (simp only [↓upd_apply, ↓put_some, ↓reduceIte, Nat.reduceEqDiff, ↓argEnv_zero, ↓argEnv_succ, *]; done)), (by first | rfl | (simp only [↓upd_apply, ↓put_some, ↓reduceIte, Nat.reduceEqDiff, ↓argEnv_zero, ↓argEnv_succ, *]; done)), (by first | rfl | (simp only [↓upd_apply, ↓put_some, ↓reduceIte, Nat.reduceEqDiff, ↓argEnv_zero, ↓argEnv_succ, *]; done)), 0, List.replicate 8 [], (by first | rfl | (simp only [↓upd_apply, ↓put_some, ↓reduceIte, Nat.reduceEqDiff, ↓argEnv_zero, ↓argEnv_succ, *]; done)), rfl, rfl, fun i h => by omega, by omega, rfl⟩ ?_
  rintro m e S ⟨t1, t5, t6, t7, t19, f, wf, t20, rfl, hlw, hw, hf, rfl⟩
  by_cases hlf : f < 8
  · have hrd := d_read d1 f
    rw [peek_up hup (by omega) (by omega)] at hrd
    simp only [Int.toNat_natCast] at hrd
    refine runf (And.intro @t1 (And.intro @t5 (And.intro @t6 (And.intro @t7 (And.intro @t19 @t20))))) ?_
    refine c1 0 hrd ?_
    refine runf (And.intro @t1 (And.intro @t5 (And.intro @t6 (And.intro @t7 (And.intro @t19 (And.intro @t20 (And.intro @hT1 (And.intro @hT2 @m1)))))))) ?_
    refine round_mk (8 - (f + 1)) (by omega) ⟨(by first | rfl | (simp only [↓upd_apply, ↓put_some, ↓reduceIte, Nat.reduceEqDiff, ↓argEnv_zero, ↓argEnv_succ, *]; done)), (by first | rfl | (simp only [↓upd_apply, ↓put_some, ↓reduceIte, Nat.reduceEqDiff, ↓argEnv_zero, ↓argEnv_succ, *]; done)), (by first | rfl | (simp only [↓upd_apply, ↓put_some, ↓reduceIte, Nat.reduceEqDiff, ↓argEnv_zero, ↓argEnv_succ, *]; done)), (by first | rfl | (simp only [↓upd_apply, ↓put_some, ↓reduceIte, Nat.reduceEqDiff, ↓argEnv_zero, ↓argEnv_succ, *]; done)), (by first | rfl | (simp only [↓upd_apply, ↓put_some, ↓reduceIte, Nat.reduceEqDiff, ↓argEnv_zero, ↓argEnv_succ, *]; done)), f + 1, wf.set f (d1.fs f).data, (by first | rfl | (simp only [↓upd_apply, ↓put_some, ↓reduceIte, Nat.reduceEqDiff, ↓argEnv_zero, ↓argEnv_succ, *]; done)), rfl, by rw [List.length_set]; exact hlw, fun i hi => ?_, by omega, rfl⟩
    by_cases hif : i = f
    · subst hif; exact List.getElem?_set_self (by omega)
    · rw [List.getElem?_set_ne (fun e => hif e.symm)]; exact hw i (by omega)
  obtain rfl : f = 8 := by omega
  refine runf (And.intro @t1 (And.intro @t5 (And.intro @t6 (And.intro @t7 (And.intro @t19 @t20))))) ?_
  refine c1 0 (d_crash d1 .ro keep) ?_
  refine runf (And.intro @t1 (And.intro @t5 (And.intro @t6 (And.intro @t7 @t19)))) ?_
  refine c1 0 (d_start _) ?_
  have hsf2 : Dm.Safe (bring (crash d1 keep)) sf := (hsf1.crash keep).fs rfl
  have hok2 : Ok (bring (crash d1 keep)) := bring_ok (crash_ok hok1 keep)
  have hup2 : (bring (crash d1 keep)).down = false := rfl
  have hcr : ∀ i, ((bring (crash d1 keep)).fs i).data = (d1.fs i).data.take ((d1.fs i).stay (keep.getD i 0)) := fun i => by
    unfold crash
    rw [if_neg (by simp [hup])]; rfl
  generalize bring (crash d1 keep) = d2 at *
  refine runf (And.intro @t1 (And.intro @t5 (And.intro @t6 (And.intro @t7 @t19)))) ?_
  refine loop_mk (fun m e S => e 5 = .bo true ∧ e 6 = .ptr 0 0 ∧ e 7 = .ws 1 0 8 8 ∧ e 19 = .ws (T.length + 1 + 1) 0 8 8 ∧ ∃ (f : Nat), e 23 = .it .i64 (f : Int) ∧ S = XD d2 :: .cells (sf.map .st) :: (T ++ [.cells (wf.map .st)]) ∧ f ≤ 8 ∧ m = 8 - f) 8
    ⟨(by first | rfl | (simp only [↓upd_apply, ↓put_some, ↓reduceIte, Nat.reduceEqDiff, ↓argEnv_zero, ↓argEnv_succ, *]; done)), (by first | rfl | (simp only [↓upd_apply, ↓put_some, ↓reduceIte, Nat.reduceEqDiff, ↓argEnv_zero, ↓argEnv_succ, *]; done)), (by first | rfl | (simp only [↓upd_apply, ↓put_some, ↓reduceIte, Nat.reduceEqDiff, ↓argEnv_zero, ↓argEnv_succ, *]; done)), (by first | rfl | (simp only [↓upd_apply, ↓put_some, ↓reduceIte, Nat.reduceEqDiff, ↓argEnv_zero, ↓argEnv_succ, *]; done)), 0, (by first | rfl | (simp only [↓upd_apply, ↓put_some, ↓reduceIte, Nat.reduceEqDiff, ↓argEnv_zero, ↓argEnv_succ, *]; done)), rfl, by omega, rfl⟩ ?_
  clear t1 t5 t6 t7 t19 t20
  rintro m e S ⟨t5, t6, t7, t19, f, t23, rfl, hf, rfl⟩
  by_cases hlf : f < 8
  · have hl8 := hsf1.1
    have gf : sf[f]? = some (sf[f]'(by omega)) := List.getElem?_eq_getElem (by omega)
    generalize sf[f]'(by omega) = t at *
    have gw := hw f hlf
    have hpr := pr_begins (hsf2.2 f t gf) (hok2.fs f)
    have hdl := (hok2.fs f).len
    have hdl1 := (hok1.fs f).len
    have hrd := d_read d2 f
    rw [peek_up hup2 (by omega) (by omega)] at hrd
    simp only [Int.toNat_natCast] at hrd
    have hb1 := begins_c (d2.fs f).data t (by omega) (by omega)
    rw [begins_t hpr.1 hpr.2] at hb1
    have hb2 := begins_c (d1.fs f).data (d2.fs f).data (by omega) (by omega)
    rw [begins_t (by rw [hcr, List.length_take]; omega) (by rw [hcr, List.length_take]; exact take_min _ _)] at hb2
    refine runf (And.intro @t5 (And.intro @t6 (And.intro @t7 (And.intro @t19 @t23)))) ?_
    refine c1 0 hrd ?_
    refine runf (And.intro @t5 (And.intro @t6 (And.intro @t7 (And.intro @t19 (And.intro @t23 (And.intro @gf (And.intro @gw (And.intro @hT1 @m1)))))))) ?_
    refine cp hb1 ?_
    refine runf (And.intro @t5 (And.intro @t6 (And.intro @t7 (And.intro @t19 (And.intro @t23 (And.intro @gf (And.intro @gw (And.intro @hT1 @m1)))))))) ?_
    refine cp hb2 ?_
    refine runf (And.intro @t5 (And.intro @t6 (And.intro @t7 (And.intro @t19 @t23)))) ?_
    exact round_mk (8 - (f + 1)) (by omega) ⟨(by first | rfl | (simp only [↓upd_apply, ↓put_some, ↓reduceIte, Nat.reduceEqDiff, ↓argEnv_zero, ↓argEnv_succ, *]; done)), (by first | rfl | (simp only [↓upd_apply, ↓put_some, ↓reduceIte, Nat.reduceEqDiff, ↓argEnv_zero, ↓argEnv_succ, *]; done)), (by first | rfl | (simp only [↓upd_apply, ↓put_some, ↓reduceIte, Nat.reduceEqDiff, ↓argEnv_zero, ↓argEnv_succ, *]; done)), (by first | rfl | (simp only [↓upd_apply, ↓put_some, ↓reduceIte, Nat.reduceEqDiff, ↓argEnv_zero, ↓argEnv_succ, *]; done)), f + 1, (by first | rfl | (simp only [↓upd_apply, ↓put_some, ↓reduceIte, Nat.reduceEqDiff, ↓argEnv_zero, ↓argEnv_succ, *]; done)), rfl, by omega, rfl⟩
  · obtain rfl : f = 8 := by omega
    refine runf (And.intro @t5 (And.intro @t6 (And.intro @t7 (And.intro @t19 @t23)))) ?_
    exact er0
end Go.Proofs.Ytknbnhmenohacaa.Pe
