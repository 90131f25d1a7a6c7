/- Several texts in one, without what this claim does not use (tools/shake.py). -/
import Derived.Test.YtleljbiejeofgaaGreatDoorKa17
import Derived.Test.YtleljbiejeofgaaGreatDoorKa23
set_option linter.unusedSectionVars false
set_option linter.unusedVariables false
set_option linter.unusedSimpArgs false
section
namespace Go.Proofs.YtleljbiejeofgaaGreatDoor.Pe
open Go Go.RowKit Co Sg Ac It Sl Wl
set_option maxRecDepth 100000
set_option maxHeartbeats 8000000
theorem ifollows_c (l : List Int) (cuts : List (Int × Int)) (hrl : ∀ x ∈ l, -9223372036854775808 ≤ x ∧ x ≤ 9223372036854775807) (hrc : ∀ c ∈ cuts, (-9223372036854775808 ≤ c.1 ∧ c.1 ≤ 9223372036854775807) ∧ (-9223372036854775808 ≤ c.2 ∧ c.2 ≤ 9223372036854775807)) :
  AC Tryz.prog 5 [intsV l, .sl .ro (cuts.map cutV)] [] (.bo true) [] := by
 obtain ⟨d, hcd, kopen⟩ := lopen_c
 have hb0 := bx0_bi hcd
 have ks := small47_c
 have hszc := cuts_sz cuts
 by_cases hbig : l.length > 20 ∨ cuts.length > 30 ∨ l.length = 0
 ·generalize bx0 d = b0 at *
  refine AC.enter2 [6, 9, 11, 12, 17, 21, 22] [23] Tryz.func5 rfl (by decide) (by decide) (Nat.le_of_ble_eq_true rfl) (by kernel_rfl) ?_; refine zev ?_
  by_cases h1 : l.length > 20
  ·have h1' : (l.length : Int) > 20 := by omega
   refine run ?_
   refine cp ks ?_
   refine run ?_
   refine call_mk d_new ?_
   refine run ?_
   refine call_mk kopen ?_
   refine runf @h1' ?_
   exact er0
  ·have h1' : ¬ (l.length : Int) > 20 := by omega
   by_cases h2 : cuts.length > 30
   ·have h2' : (cuts.length : Int) > 30 := by omega
    refine run ?_
    refine cp ks ?_
    refine run ?_
    refine call_mk d_new ?_
    refine run ?_
    refine call_mk kopen ?_
    refine runf (an @h1' @h2') ?_
    exact er0
   ·have h2' : ¬ (cuts.length : Int) > 30 := by omega
    have h3' : ((l.length : Nat) : Int) = 0 := by omega
    refine run ?_
    refine cp ks ?_
    refine run ?_
    refine call_mk d_new ?_
    refine run ?_
    refine call_mk kopen ?_
    refine runf (an @h1' (an @h2' @h3')) ?_
    exact er0
 have h1' : ¬ (l.length : Int) > 20 := by omega
 have h2' : ¬ (cuts.length : Int) > 30 := by omega
 have h3' : ¬ (l.length : Int) = 0 := by omega
 have hl20 : l.length ≤ 20 := by omega
 have hel := ents_len l
 have ke := entries47_c l (by omega) hrl
 have hok := ents_eok (l := l) (by omega)
 have hszL := entries_sz (ents l)
 have hm0 : MirW ((1 : Nat) : Int) (ents l) (bx0 d).m1 0 0 := mirW_new _ _
 have hr0 : rightM iPubs (bx0 d).m1 = true := (mir_new (ents_good (s := 1) (.inl rfl) (l := l) (by omega))).right
 have hp0 : (bx0 d).pf = none := rfl
 generalize bx0 d = b0 at *
 refine AC.enter2 [6, 9, 11, 12, 17, 21, 22] [23] Tryz.func5 rfl (by decide) (by decide) (Nat.le_of_ble_eq_true rfl) (by kernel_rfl) ?_; refine zev ?_
 refine run ?_
 refine cp ks ?_
 refine run ?_
 refine call_mk d_new ?_
 refine run ?_
 refine call_mk kopen ?_
 refine runf (an @h1' (an @h2' @h3')) ?_
 refine cp ke ?_
 refine run ?_
 refine loop_mk (fun m e S => e 0 = intsV l ∧ e 1 = .sl .ro (cuts.map cutV) ∧ e 5 = .bo true ∧ e 6 = .ptr 3 0 ∧ e 7 = entriesV (ents l) ∧ ∃ (i n : Nat) (b : Bx), e 8 = .it .i64 (n : Int) ∧ e 9 = .it .i64 (i : Int) ∧ S = XB b ∧ BI b (i * 4683) ∧ b.pf = none ∧ MirW ((1 : Nat) : Int) (ents l) b.m1 n i ∧ rightM iPubs b.m1 = true ∧ i ≤ cuts.length ∧ m = cuts.length - i) cuts.length ⟨zsl, zsl, zsl, zsl, zsl, 0, 0, b0, zsl, zsl, rfl, hb0, hp0, hm0, hr0, by omega, rfl⟩ ?_
 rintro m e S ⟨s0, s1, s5, s6, s7, i, n, b, s8, s9, rfl, hb, hp, hm, hr, hi, rfl⟩
 by_cases hlt : i < cuts.length
 ·have hg : cuts[i]? = some cuts[i] := List.getElem?_eq_getElem hlt
  have hc := hrc cuts[i] (List.getElem_mem hlt)
  generalize cuts[i] = ct at *
  obtain ⟨cE, cB⟩ := ct
  have hlt' : (i : Int) < (cuts.length : Int) := by omega
  have q1 := pick_in (n := cE) (m := (l.length : Int)) (by omega)
  have kp1 := pick47_c cE (l.length : Int) hc.1 (by omega)
  rw [← hel] at kp1 q1
  generalize pickN47 cE _ = p1 at *
  obtain ⟨t, ht⟩ : ∃ t : Nat, (t : Int) = 1 + p1 := ⟨(1 + p1).toNat, by omega⟩
  have q2 := pick_in (n := cB) (m := (t : Int)) (by omega)
  have kp2 := pick47_c cB (t : Int) hc.2 (by omega)
  generalize pickN47 cB (t : Int) = p2 at *
  obtain ⟨frm, hf⟩ : ∃ f : Nat, (f : Int) = (t : Int) - 1 - p2 := ⟨((t : Int) - 1 - p2).toNat, by omega⟩
  have w1 : IntKind.i64.wrap (1 + p1) = (t : Int) := by rw [wrap64 (by omega) (by omega)]; exact ht.symm
  have w2 : IntKind.i64.wrap ((t : Int) - 1) = (t : Int) - 1 := wrap64 (by omega) (by omega)
  have w3 : IntKind.i64.wrap ((t : Int) - 1 - p2) = (frm : Int) := by rw [wrap64 (by omega) (by omega)]; exact hf.symm
  have w4 : IntKind.i64.wrap ((i : Int) + 1) = ((i + 1 : Nat) : Int) := by rw [wrap64 (by omega) (by omega)]; omega
  have hft : frm < t := by omega
  have htl : t ≤ l.length := by omega
  have kr := iround_c b
  have kb := batch47_c 1 (.inl rfl) (ents l) (by omega) (ents_iz (l := l) (by omega)) frm t hft (by omega)
  obtain ⟨c, b', n', kt, hb', hp', hm', hr', hcs⟩ := fol_step (step_round hb) (by omega) hp rfl hl20 hm hr (by omega) hft htl
  have hml := hm'.len
  have hmle := hm'.le
  have hcz : ∀ e ∈ b'.m1.entries, Cz e.item := fun e he => ents_cz (l := l) (by omega) e (by rw [hm'.entries] at he; exact List.mem_of_mem_take he)
  have hmh := hm'.heads
  have kmir := imirror1_c b' hb'.ps3 (by omega) hcz (by omega)
  have heok : EOk b'.m1.entries := by rw [hm'.entries]; exact hok.take n'
  have ksm := fsame15_c b'.m1.entries ((ents l).take n') heok (hok.take n')
  rw [decide_eq_true hm'.entries] at ksm
  have kpub := ipubs_c
  have krt := mright_c iPubs b'.m1 iPubs_inl heok (by omega)
  rw [hr'] at krt
  have kcv := iconvicted_c b'
  rw [hp'] at kcv
  have hcv : ((convL none).length : Int) = 0 := rfl
  clear hr hm kopen ke ks
  refine runf (an @s0 (an @s1 (an @s5 (an @s6 (an @s7 (an @s8 (an @s9 (an @hg (an @hszc @hlt'))))))))) ?_
  refine cp kp1 ?_
  refine runf (an @s0 (an @s1 (an @s5 (an @s6 (an @s7 (an @s8 (an @s9 (an @hg (an @hszc @w1))))))))) ?_
  refine cp kp2 ?_
  refine runf (an @s0 (an @s1 (an @s5 (an @s6 (an @s7 (an @s8 (an @s9 (an @w2 @w3)))))))) ?_
  refine call_mk kr ?_
  refine runf (an @s0 (an @s1 (an @s5 (an @s6 (an @s7 (an @s8 @s9)))))) ?_
  generalize ({ b with c1 := 0, c2 := 0 } : Bx) = br at *
  refine cp kb ?_
  refine runf (an @s0 (an @s1 (an @s5 (an @s6 (an @s7 (an @s8 @s9)))))) ?_
  refine call_mk kt ?_
  have hn'l : n' ≤ (ents l).length := hmle
  rcases hcs with ⟨hx, rfl, rfl⟩ | ⟨hx, hy, rfl, rfl⟩ | ⟨hx, hy, rfl, rfl⟩
  ·have hx1 : (frm : Int) > (n' : Int) := by omega
   have hx2 : ¬ (frm : Int) ≤ (n' : Int) := by omega
   refine runf (an @s0 (an @s1 (an @s5 (an @s6 (an @s7 (an @s8 (an @s9 (an @hx1 (an @hx2 @w4))))))))) ?_
   refine call_mk kmir ?_
   refine runf (an @s0 (an @s1 (an @s5 (an @s6 (an @s7 (an @s8 (an @s9 (an @hx1 (an @hx2 (an @hszL @hn'l)))))))))) ?_
   refine cp ksm ?_
   refine runf (an @s0 (an @s1 (an @s5 (an @s6 (an @s7 (an @s8 @s9)))))) ?_
   refine cp kpub ?_
   refine runf (an @s0 (an @s1 (an @s5 (an @s6 (an @s7 (an @s8 @s9)))))) ?_
   refine cp krt ?_
   refine runf (an @s0 (an @s1 (an @s5 (an @s6 (an @s7 (an @s8 @s9)))))) ?_
   refine call_mk ⟨fun R => AC.bx kcv _, rfl⟩ ?_
   refine runf (an @s0 (an @s1 (an @s5 (an @s6 (an @s7 (an @s8 (an @s9 (an @hcv @w4)))))))) ?_
   exact round_mk' (cuts.length - (i + 1)) _ (XB b') (Weak.sub 0 (List.range 8) ((((((((KeepR.nil _ _).cons 0 (intsV l) (intsV l) rfl rfl zsl).cons 1 (.sl .ro (cuts.map cutV)) (.sl .ro (cuts.map cutV)) rfl rfl zsl).cons 5 (.bo true) (.bo true) rfl rfl zsl).cons 6 (.ptr 3 0) (.ptr 3 0) rfl rfl zsl).cons 7 (entriesV (ents l)) (entriesV (ents l)) rfl rfl zsl).cons 8 (.it .i64 (n' : Int)) (.it .i64 (n' : Int)) rfl rfl zsl).cons 9 (.it .i64 ((i + 1 : Nat) : Int)) (.it .i64 ((i + 1 : Nat) : Int)) rfl rfl zsl) (xb_sub b' _) rfl) (by omega)
    ⟨rfl, rfl, rfl, rfl, rfl, i + 1, n', b', rfl, rfl, rfl, by rw [Nat.succ_mul]; exact hb', hp', hm', hr', hlt, rfl⟩
  ·have hx1 : ¬ (frm : Int) > (n' : Int) := by omega
   have hx2 : (frm : Int) ≤ (n' : Int) := by omega
   have hx3 : ¬ (t : Int) > (n' : Int) := by omega
   refine runf (an @s0 (an @s1 (an @s5 (an @s6 (an @s7 (an @s8 (an @s9 (an @hx1 (an @hx2 (an @hx3 @w4)))))))))) ?_
   refine call_mk kmir ?_
   refine runf (an @s0 (an @s1 (an @s5 (an @s6 (an @s7 (an @s8 (an @s9 (an @hx1 (an @hx2 (an @hx3 (an @hszL @hn'l))))))))))) ?_
   refine cp ksm ?_
   refine runf (an @s0 (an @s1 (an @s5 (an @s6 (an @s7 (an @s8 @s9)))))) ?_
   refine cp kpub ?_
   refine runf (an @s0 (an @s1 (an @s5 (an @s6 (an @s7 (an @s8 @s9)))))) ?_
   refine cp krt ?_
   refine runf (an @s0 (an @s1 (an @s5 (an @s6 (an @s7 (an @s8 @s9)))))) ?_
   refine call_mk ⟨fun R => AC.bx kcv _, rfl⟩ ?_
   refine runf (an @s0 (an @s1 (an @s5 (an @s6 (an @s7 (an @s8 (an @s9 (an @hcv @w4)))))))) ?_
   exact round_mk' (cuts.length - (i + 1)) _ (XB b') (Weak.sub 0 (List.range 8) ((((((((KeepR.nil _ _).cons 0 (intsV l) (intsV l) rfl rfl zsl).cons 1 (.sl .ro (cuts.map cutV)) (.sl .ro (cuts.map cutV)) rfl rfl zsl).cons 5 (.bo true) (.bo true) rfl rfl zsl).cons 6 (.ptr 3 0) (.ptr 3 0) rfl rfl zsl).cons 7 (entriesV (ents l)) (entriesV (ents l)) rfl rfl zsl).cons 8 (.it .i64 (n' : Int)) (.it .i64 (n' : Int)) rfl rfl zsl).cons 9 (.it .i64 ((i + 1 : Nat) : Int)) (.it .i64 ((i + 1 : Nat) : Int)) rfl rfl zsl) (xb_sub b' _) rfl) (by omega)
    ⟨rfl, rfl, rfl, rfl, rfl, i + 1, n', b', rfl, rfl, rfl, by rw [Nat.succ_mul]; exact hb', hp', hm', hr', hlt, rfl⟩
  ·have hx1 : ¬ (frm : Int) > (n : Int) := by omega
   have hx2 : (frm : Int) ≤ (n : Int) := by omega
   have hx3 : (n' : Int) > (n : Int) := by omega
   refine runf (an @s0 (an @s1 (an @s5 (an @s6 (an @s7 (an @s8 (an @s9 (an @hx1 (an @hx2 (an @hx3 @w4)))))))))) ?_
   refine call_mk kmir ?_
   refine runf (an @s0 (an @s1 (an @s5 (an @s6 (an @s7 (an @s8 (an @s9 (an @hx1 (an @hx2 (an @hx3 (an @hszL @hn'l))))))))))) ?_
   refine cp ksm ?_
   refine runf (an @s0 (an @s1 (an @s5 (an @s6 (an @s7 (an @s8 @s9)))))) ?_
   refine cp kpub ?_
   refine runf (an @s0 (an @s1 (an @s5 (an @s6 (an @s7 (an @s8 @s9)))))) ?_
   refine cp krt ?_
   refine runf (an @s0 (an @s1 (an @s5 (an @s6 (an @s7 (an @s8 @s9)))))) ?_
   refine call_mk ⟨fun R => AC.bx kcv _, rfl⟩ ?_
   refine runf (an @s0 (an @s1 (an @s5 (an @s6 (an @s7 (an @s8 (an @s9 (an @hcv @w4)))))))) ?_
   exact round_mk' (cuts.length - (i + 1)) _ (XB b') (Weak.sub 0 (List.range 8) ((((((((KeepR.nil _ _).cons 0 (intsV l) (intsV l) rfl rfl zsl).cons 1 (.sl .ro (cuts.map cutV)) (.sl .ro (cuts.map cutV)) rfl rfl zsl).cons 5 (.bo true) (.bo true) rfl rfl zsl).cons 6 (.ptr 3 0) (.ptr 3 0) rfl rfl zsl).cons 7 (entriesV (ents l)) (entriesV (ents l)) rfl rfl zsl).cons 8 (.it .i64 (n' : Int)) (.it .i64 (n' : Int)) rfl rfl zsl).cons 9 (.it .i64 ((i + 1 : Nat) : Int)) (.it .i64 ((i + 1 : Nat) : Int)) rfl rfl zsl) (xb_sub b' _) rfl) (by omega)
    ⟨rfl, rfl, rfl, rfl, rfl, i + 1, n', b', rfl, rfl, rfl, by rw [Nat.succ_mul]; exact hb', hp', hm', hr', hlt, rfl⟩
 ·obtain rfl : i = cuts.length := by omega
  have hlt' : ¬ (cuts.length : Int) < (cuts.length : Int) := by omega
  refine runf (an @s0 (an @s1 (an @s5 (an @s6 (an @s7 (an @s8 (an @s9 @hlt'))))))) ?_
  exact er0
end Go.Proofs.YtleljbiejeofgaaGreatDoor.Pe
end
