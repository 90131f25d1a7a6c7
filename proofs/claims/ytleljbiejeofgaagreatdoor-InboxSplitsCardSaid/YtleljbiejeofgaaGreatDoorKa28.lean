/- Several texts in one, without what this claim does not use (tools/shake.py). -/
import Derived.Test.YtleljbiejeofgaaGreatDoorKa17
import Derived.Test.YtleljbiejeofgaaGreatDoorKa23
set_option linter.unusedSectionVars false
set_option linter.unusedVariables false
set_option linter.unusedSimpArgs false
section
namespace Go.Proofs.YtleljbiejeofgaaGreatDoor.Pe
open Go Go.RowKit Co Sg Ac It Sl Wl
set_option maxRecDepth 100000
set_option maxHeartbeats 8000000
theorem xbo_sub (b : Bx) (T : Store) (j : Nat) (o : SObj) {S : Store} (hS : S = XB b ++ T) (hj : 8 ≤ j) (ho : o.ok 0 = true) (h : S[j]? = some o) (ho9 : o.ok 9 = true := by rfl) : SubOk [0, 1, 2, 3, 4, 5, 6, 7, j] S (XB b ++ [o]) := by
 subst hS
 have hn : [0, 1, 2, 3, 4, 5, 6, 7, j].Nodup := by
  simp only [List.nodup_cons, List.mem_cons, List.not_mem_nil, or_false, not_or, List.nodup_nil, and_true, not_false_eq_true]
  omega
 refine ⟨hn, rfl, fun i o hi => ?_⟩
 match i, hi with
 | 0, hi => cases hi; exact ⟨rfl, rfl⟩
 | 1, hi => cases hi; exact ⟨rfl, rfl⟩
 | 2, hi => cases hi; exact ⟨rfl, rfl⟩
 | 3, hi => cases hi; exact ⟨rfl, rfl⟩
 | 4, hi => cases hi; exact ⟨rfl, rfl⟩
 | 5, hi => cases hi; exact ⟨pfV_ok _ _, congrArg some (pfV_ren _ _).symm⟩
 | 6, hi => cases hi; exact ⟨rfl, rfl⟩
 | 7, hi => cases hi; exact ⟨rfl, rfl⟩
 | 8, hi => cases hi; exact ⟨ho9, by rw [sren0 ho]; exact h⟩
def cvE : Bool → Option Evidence
 | true => some evSplit
 | false => none
structure SpI (b : Bx) (k l : List Int) (x y i : Nat) (cv : Bool) (N : Nat) : Prop where
 bi : BI b N
 pf : b.pf = cvE cv
 m1 : MirW ((1 : Nat) : Int) (ents k) b.m1 x i
 m2 : MirW ((2 : Nat) : Int) (ents l) b.m2 y i
section
variable {b : Bx} {k l : List Int} {x y i N : Nat} {cv : Bool}
theorem SpI.mono {i' N' : Nat} (h : SpI b k l x y i cv N) (hi : i ≤ i') (hN : N ≤ N') : SpI b k l x y i' cv N' := ⟨h.bi.mono hN, h.pf, h.m1.mono hi, h.m2.mono hi⟩
theorem SpI.round (h : SpI b k l x y i cv N) : SpI { b with c1 := 0, c2 := 0 } k l x y i cv N := ⟨step_round h.bi, h.pf, h.m1, h.m2⟩
theorem SpI.ev (h : SpI b k l x y i false N) (hN : N ≤ 1000000) (hc : b.c2 = 0) : ∃ b' : Bx, AC Tryz.prog 13 [.ptr 3 0, msgE ((2 : Nat) : Int) evSplit] (XB b) (.it .i64 0) (XB b') ∧ SpI b' k l x y i true (N + 3013) ∧ b'.c1 = b.c1 ∧ b'.c2 = 1 := by
 obtain ⟨b', k1, h1, h2, h3, h4, h5, h6⟩ := step_ev h.bi (by omega) split_check split_formed split_srv h.pf (by rw [hc]; decide)
 exact ⟨b', k1, ⟨h1, h2, by rw [h3]; exact h.m1, by rw [h4]; exact h.m2⟩, h5, by rw [h6, hc]; rfl⟩
theorem SpI.a (h : SpI b k l x y i false N) (hN : N ≤ 1000000) (hk : k.length ≤ 12) (hi : i ≤ 100) (hc : b.c1 ≤ 1) (hx : x + 1 ≤ k.length) :
  ∃ b' : Bx, AC Tryz.prog 13 [.ptr 3 0, msgB ((1 : Nat) : Int) ⟨headTo (iKey 1) ((1 : Nat) : Int) (ents k) (x + 1), x, ((ents k).take (x + 1)).drop x⟩] (XB b) (.it .i64 0) (XB b') ∧ SpI b' k l (x + 1) y (i + 1) false (N + 4683) := by
 obtain ⟨b', k1, h1, h2, h3, h4, h5⟩ := spl_step1 h.bi hN h.pf hc (by omega) h.m1 hi hx
 exact ⟨b', k1, h1, h2, h3, by rw [h4]; exact h.m2.mono (by omega)⟩
theorem SpI.acv (h : SpI b k l x y i true N) (hN : N ≤ 1000000) (hk : k.length ≤ 12) (hi : i ≤ 100) (hc : b.c1 ≤ 1) (hx : x + 1 ≤ k.length) :
  ∃ b' : Bx, AC Tryz.prog 13 [.ptr 3 0, msgB ((1 : Nat) : Int) ⟨headTo (iKey 1) ((1 : Nat) : Int) (ents k) (x + 1), x, ((ents k).take (x + 1)).drop x⟩] (XB b) (.it .i64 5) (XB b') ∧ SpI b' k l x y (i + 1) true (N + 4683) := by
 have hh := headTo_hf (s := 1) (.inl rfl) (l := k) (by omega) (t := x + 1) (by omega) hx
 have hmh := h.m1.heads
 obtain ⟨b', k1, h1, h2, h3, h4, h5, h6⟩ := step_conv h.bi (by omega) (l := k) (by omega) h.m1.entries (by omega) (Nat.lt_succ_self x) hx hh.srv (by rw [h.pf]; rfl) (by omega)
 exact ⟨b', k1, h1.mono (by omega), by rw [h2]; exact h.pf, by rw [h3]; exact h.m1.mono (by omega), by rw [h4]; exact h.m2.mono (by omega)⟩
theorem SpI.b2 (h : SpI b k l x y i cv N) (hN : N ≤ 1000000) (hl : l.length ≤ 12) (hi : i ≤ 100) (hc : b.c2 ≤ 1) (hy : y + 1 ≤ l.length) :
  ∃ b' : Bx, AC Tryz.prog 13 [.ptr 3 0, msgB ((2 : Nat) : Int) ⟨headTo (iKey 2) ((2 : Nat) : Int) (ents l) (y + 1), y, ((ents l).take (y + 1)).drop y⟩] (XB b) (.it .i64 0) (XB b') ∧ SpI b' k l x (y + 1) (i + 1) cv (N + 4683) := by
 obtain ⟨b', k1, h1, h2, h3, h4⟩ := spl_step2 h.bi hN hc (by omega) h.m2 hi hy
 exact ⟨b', k1, h1, by rw [h2]; exact h.pf, by rw [h4]; exact h.m1.mono (by omega), h3⟩
theorem SpI.shows (h : SpI b k l x y i cv N) (hk : k.length ≤ 12) (hl : l.length ≤ 12) (hi : i ≤ 100) :
  AC Tryz.prog 18 [.ptr 3 0, .it .i64 1] (XB b) (mirV b.m1) (XB b) ∧ AC Tryz.prog 18 [.ptr 3 0, .it .i64 2] (XB b) (mirV b.m2) (XB b) ∧
  AC Tryz.prog 17 [entriesV b.m1.entries, entriesV ((ents k).take x)] [] (.bo true) [] ∧ AC Tryz.prog 17 [entriesV b.m2.entries, entriesV ((ents l).take y)] [] (.bo true) [] := by
 have h1 := h.m1.len
 have h2 := h.m2.len
 have h3 := h.m1.le
 have h4 := h.m2.le
 have h5 := h.m1.heads
 have h6 := h.m2.heads
 have e1 := ents_len k
 have e2 := ents_len l
 have hok1 := ents_eok (l := k) (by omega)
 have hok2 := ents_eok (l := l) (by omega)
 have s1 := fsame15_c b.m1.entries ((ents k).take x) (by rw [h.m1.entries]; exact hok1.take x) (hok1.take x)
 have s2 := fsame15_c b.m2.entries ((ents l).take y) (by rw [h.m2.entries]; exact hok2.take y) (hok2.take y)
 rw [decide_eq_true h.m1.entries] at s1
 rw [decide_eq_true h.m2.entries] at s2
 exact ⟨imirror1_c b h.bi.ps3 (by omega) (fun e he => ents_cz (l := k) (by omega) e (by rw [h.m1.entries] at he; exact List.mem_of_mem_take he)) (by omega), imirror2_c b h.bi.ps3 (by omega) (fun e he => ents_cz (l := l) (by omega) e (by rw [h.m2.entries] at he; exact List.mem_of_mem_take he)) (by omega), s1, s2⟩
theorem SpI.items (h : SpI b k l x y i cv N) (hk : k.length ≤ 12) (hl : l.length ≤ 12) :
  AC Tryz.prog 19 [.ptr 3 0] (XB b) (itemsV (b.items false)) (XB b) ∧ AC Tryz.prog 20 [.ptr 3 0] (XB b) (itemsV (b.items true)) (XB b) ∧
  (b.items false).length = (if cv then y else x + y) ∧ (b.items true).length = (if cv then x else 0) := by
 have h1 := h.m1.len
 have h2 := h.m2.len
 have h3 := h.m1.le
 have h4 := h.m2.le
 have e1 := ents_len k
 have e2 := ents_len l
 have z1 : ∀ e ∈ b.m1.entries, Cz e.item := fun e he => ents_cz (l := k) (by omega) e (by rw [h.m1.entries] at he; exact List.mem_of_mem_take he)
 have z2 : ∀ e ∈ b.m2.entries, Cz e.item := fun e he => ents_cz (l := l) (by omega) e (by rw [h.m2.entries] at he; exact List.mem_of_mem_take he)
 refine ⟨iItems_c b (by omega) (by omega) z1 z2, iOrphans_c b (by omega) (by omega) z1 z2, ?_, ?_⟩
 ·unfold Bx.items itsOf
  rw [h.pf]
  cases cv <;> simp [cvE, h1, h2]
 ·unfold Bx.items itsOf
  rw [h.pf]
  cases cv <;> simp [cvE, h1, h2]
end
theorem isplits_c (k l : List Int) (order : List Bool) (at_ : Int) (hrk : ∀ x ∈ k, -9223372036854775808 ≤ x ∧ x ≤ 9223372036854775807) (hrl : ∀ x ∈ l, -9223372036854775808 ≤ x ∧ x ≤ 9223372036854775807) :
  AC Tryz.prog 4 [intsV k, intsV l, boolsV order, .it .i64 at_] [] (.bo true) [] := by
 obtain ⟨d, hcd, kopen⟩ := lopen_c
 have hb0 := bx0_bi hcd
 have ks := small47_c
 have hszo := bools_sz order
 by_cases h1 : k.length > 12
 ·have h1' : (k.length : Int) > 12 := by omega
  generalize bx0 d = b0 at *
  refine AC.enter2 [6, 9, 15, 14, 16, 12, 17] [18] Tryz.func4 rfl (by decide) (by decide) (Nat.le_of_ble_eq_true rfl) (by kernel_rfl) ?_; refine zev ?_
  refine run ?_
  refine cp ks ?_
  refine run ?_
  refine call_mk d_new ?_
  refine run ?_
  refine call_mk kopen ?_
  refine runf @h1' ?_
  exact er0
 have h1' : ¬ (k.length : Int) > 12 := by omega
 by_cases h2 : l.length > 12
 ·have h2' : (l.length : Int) > 12 := by omega
  generalize bx0 d = b0 at *
  refine AC.enter2 [6, 9, 15, 14, 16, 12, 17] [18] Tryz.func4 rfl (by decide) (by decide) (Nat.le_of_ble_eq_true rfl) (by kernel_rfl) ?_; refine zev ?_
  refine run ?_
  refine cp ks ?_
  refine run ?_
  refine call_mk d_new ?_
  refine run ?_
  refine call_mk kopen ?_
  refine runf (an @h1' @h2') ?_
  exact er0
 have h2' : ¬ (l.length : Int) > 12 := by omega
 by_cases h3 : order.length > 40
 ·have h3' : (order.length : Int) > 40 := by omega
  generalize bx0 d = b0 at *
  refine AC.enter2 [6, 9, 15, 14, 16, 12, 17] [18] Tryz.func4 rfl (by decide) (by decide) (Nat.le_of_ble_eq_true rfl) (by kernel_rfl) ?_; refine zev ?_
  refine run ?_
  refine cp ks ?_
  refine run ?_
  refine call_mk d_new ?_
  refine run ?_
  refine call_mk kopen ?_
  refine runf (an @h1' (an @h2' @h3')) ?_
  exact er0
 have h3' : ¬ (order.length : Int) > 40 := by omega
 have hk12 : k.length ≤ 12 := by omega
 have hl12 : l.length ≤ 12 := by omega
 have ek := ents_len k
 have el := ents_len l
 have kk := entries47_c k (by omega) hrk
 have kl := entries47_c l (by omega) hrl
 have hszk := entries_sz (ents k)
 have hszl := entries_sz (ents l)
 have key1 := ikey_c 1 (by decide)
 have ke1 := entries47_c [1] (by decide) (by decide)
 have ke2 := entries47_c [2, 3] (by decide) (by decide)
 have kh1 := shead_c (iKey 1) 1 (ents [1]) 0 (iKey_range 1) (by rw [ents_len]; decide) (ents_iz (by decide))
 have kh2 := shead_c (iKey 1) 1 (ents [2, 3]) 0 (iKey_range 1) (by rw [ents_len]; decide) (ents_iz (by decide))
 have kmk := fkmake_c (ents [2, 3]) (mkHead (iKey 1) 1 (ents [2, 3]) 0) (mkHead (iKey 1) 1 (ents [1]) 0) (ents_eok (by decide))
 rw [split_eq] at kmk
 have hS0 : SpI (bx0 d) k l 0 0 0 false 0 := ⟨hb0, rfl, mirW_new _ _, mirW_new _ _⟩
 generalize bx0 d = b0 at *
 generalize mkHead (iKey 1) 1 (ents [1]) 0 = hd1 at *
 generalize mkHead (iKey 1) 1 (ents [2, 3]) 0 = hd2 at *
 generalize ents [2, 3] = L23 at *
 generalize ents [1] = L1 at *
 generalize hky : iKey 1 = ky at key1 kh1 kh2
 clear hky hb0
 refine AC.enter2 [6, 9, 15, 14, 16, 12, 17] [18] Tryz.func4 rfl (by decide) (by decide) (Nat.le_of_ble_eq_true rfl) (by kernel_rfl) ?_; refine zev ?_
 refine run ?_
 refine cp ks ?_
 refine run ?_
 refine call_mk d_new ?_
 refine run ?_
 refine call_mk kopen ?_
 refine runf (an @h1' (an @h2' @h3')) ?_
 refine cp kk ?_
 refine run ?_
 refine cp kl ?_
 refine run ?_
 refine cp key1 ?_
 refine run ?_
 refine cp ke1 ?_
 refine run ?_
 refine cp kh1 ?_
 refine run ?_
 refine cp ke2 ?_
 refine run ?_
 refine cp key1 ?_
 refine run ?_
 refine cp kh2 ?_
 refine run ?_
 refine cp kmk ?_
 refine run ?_
 clear ks kopen kk kl key1 ke1 ke2 kh1 kh2 kmk
 refine loop_mk' (fun m e S => e 2 = boolsV order ∧ e 3 = .it .i64 at_ ∧ e 9 = .bo true ∧ e 10 = .ptr 3 0 ∧ e 11 = entriesV (ents k) ∧ e 12 = entriesV (ents l) ∧ e 15 = .ptr 8 0 ∧ ∃ (i x y : Nat) (cv : Bool) (b : Bx), e 17 = .it .i64 (x : Int) ∧ e 18 = .it .i64 (y : Int) ∧ e 19 = .bo cv ∧ e 20 = .it .i64 (i : Int) ∧ S = XB b ++ [.cells (evL evSplit)] ∧ SpI b k l x y i cv (i * 7696) ∧ (cv = true → at_ < i) ∧ i ≤ order.length ∧ m = order.length - i) order.length _ (XB b0 ++ [.cells (evL evSplit)]) (Weak.sub 0 [0, 1, 2, 3, 4, 5, 6, 7, 9] ((((((((((((KeepR.nil _ _).cons 2 (boolsV order) (boolsV order) rfl rfl zsl).cons 3 (.it .i64 at_) (.it .i64 at_) rfl rfl zsl).cons 9 (.bo true) (.bo true) rfl rfl zsl).cons 10 (.ptr 3 0) (.ptr 3 0) rfl rfl zsl).cons 11 (entriesV (ents k)) (entriesV (ents k)) rfl rfl zsl).cons 12 (entriesV (ents l)) (entriesV (ents l)) rfl rfl zsl).cons 15 (.ptr 8 0) (.ptr 9 0) rfl rfl zsl).cons 17 (.it .i64 ((0 : Nat) : Int)) (.it .i64 ((0 : Nat) : Int)) rfl rfl zsl).cons 18 (.it .i64 ((0 : Nat) : Int)) (.it .i64 ((0 : Nat) : Int)) rfl rfl zsl).cons 19 (.bo false) (.bo false) rfl rfl zsl).cons 20 (.it .i64 ((0 : Nat) : Int)) (.it .i64 ((0 : Nat) : Int)) rfl rfl zsl) (xbo_sub b0 _ 9 _ rfl (by decide) (by rfl) (by rfl)) rfl)
  ⟨rfl, rfl, rfl, rfl, rfl, rfl, rfl, 0, 0, 0, false, b0, rfl, rfl, rfl, rfl, rfl, hS0, (by intro h; cases h), by omega, rfl⟩ ?_
 rintro m e S ⟨s2, s3, s9, s10, s11, s12, s15, i, x, y, cv, b, s17, s18, s19, s20, rfl, hS, hcv, hi, rfl⟩
 by_cases hlt : i < order.length
 ·have hg : order[i]? = some order[i] := List.getElem?_eq_getElem hlt
  have hlt' : (i : Int) < (order.length : Int) := by omega
  have w4 : IntKind.i64.wrap ((i : Int) + 1) = ((i + 1 : Nat) : Int) := by rw [wrap64 (by omega) (by omega)]; omega
  have kr := iround_c b
  have hSr := hS.round
  have hx0 := hS.m1.le
  have hy0 := hS.m2.le
  have wx : IntKind.i64.wrap ((x : Int) + 1) = ((x + 1 : Nat) : Int) := by rw [wrap64 (by omega) (by omega)]; omega
  have wy : IntKind.i64.wrap ((y : Int) + 1) = ((y + 1 : Nat) : Int) := by rw [wrap64 (by omega) (by omega)]; omega
  have hcr1 : ({ b with c1 := 0, c2 := 0 } : Bx).c1 = 0 := rfl
  have hcr2 : ({ b with c1 := 0, c2 := 0 } : Bx).c2 = 0 := rfl
  generalize ({ b with c1 := 0, c2 := 0 } : Bx) = br at *
  by_cases hq : (i : Int) = at_
  ·have hat : ((i : Int) == at_) = true := beq_iff_eq.2 hq
   obtain rfl : cv = false := by
    cases cv with
    | false => rfl
    | true => have := hcv rfl; omega
   obtain ⟨b1, kev, hS1, hd1, hd2⟩ := hSr.ev (by omega) hcr2
   cases hord : order[i] with
   | true =>
    by_cases hxl : x + 1 ≤ k.length
    ·have hc9 : (x : Int) < ((ents k).length : Int) := by omega
     obtain ⟨b', kt, hS'⟩ := hS1.acv (by omega) hk12 (by omega) (by omega) hxl
     replace hS' := hS'.mono (Nat.le_refl _) (N' := (i + 1) * 7696) (by omega)
     obtain ⟨km1, km2, ks1, ks2⟩ := hS'.shows hk12 hl12 (by omega)
     have kb := batch47_c 1 (.inl rfl) (ents k) (by omega) (ents_iz (l := k) (by omega)) x (x + 1) (Nat.lt_succ_self x) (by omega)
     have hxe : x ≤ (ents k).length := by omega
     have hye : y ≤ (ents l).length := by omega
     refine runf (an @s2 (an @s3 (an @s9 (an @s10 (an @s11 (an @s12 (an @s15 (an @s17 (an @s18 (an @s19 (an @s20 (an @hg (an @hszo (an @hlt' @hat)))))))))))))) ?_
     refine call_mk (AC.bx kr _) ?_
     refine runf (an @s2 (an @s3 (an @s9 (an @s10 (an @s11 (an @s12 (an @s15 (an @s17 (an @s18 (an @s19 (an @s20 (an @hg (an @hszo (an @hlt' (an @hat (an @hord @hc9)))))))))))))))) ?_
     refine call_mk (AC.bx kev _) ?_
     refine runf (an @s2 (an @s3 (an @s9 (an @s10 (an @s11 (an @s12 (an @s15 (an @s17 (an @s18 (an @s19 (an @s20 (an @hg (an @hszo (an @hlt' (an @hat (an @hord @hc9)))))))))))))))) ?_
     refine cp kb ?_
     refine runf (an @s2 (an @s3 (an @s9 (an @s10 (an @s11 (an @s12 (an @s15 (an @s17 (an @s18 (an @s19 (an @s20 (an @hg (an @hszo (an @hlt' (an @hat (an @hord (an @hc9 @wx))))))))))))))))) ?_
     refine call_mk (AC.bx kt _) ?_
     refine runf (an @s2 (an @s3 (an @s9 (an @s10 (an @s11 (an @s12 (an @s15 (an @s17 (an @s18 (an @s19 (an @s20 (an @hg (an @hszo (an @hlt' (an @hat (an @hord (an @hc9 @wx))))))))))))))))) ?_
     refine call_mk ⟨fun R => AC.bx km1 _, rfl⟩ ?_
     refine runf (an @s2 (an @s3 (an @s9 (an @s10 (an @s11 (an @s12 (an @s15 (an @s17 (an @s18 (an @s19 (an @s20 (an @hszk (an @hszl (an @hxe @hye)))))))))))))) ?_
     refine cp ks1 ?_
     refine runf (an @s2 (an @s3 (an @s9 (an @s10 (an @s11 (an @s12 (an @s15 (an @s17 (an @s18 (an @s19 (an @s20 (an @hszk (an @hszl (an @hxe @hye)))))))))))))) ?_
     refine call_mk ⟨fun R => AC.bx km2 _, rfl⟩ ?_
     refine runf (an @s2 (an @s3 (an @s9 (an @s10 (an @s11 (an @s12 (an @s15 (an @s17 (an @s18 (an @s19 (an @s20 (an @hszk (an @hszl (an @hxe @hye)))))))))))))) ?_
     refine cp ks2 ?_
     refine runf (an @s2 (an @s3 (an @s9 (an @s10 (an @s11 (an @s12 (an @s15 (an @s17 (an @s18 (an @s19 (an @s20 (an @hszk (an @hszl (an @hxe (an @hye @w4))))))))))))))) ?_
     exact round_mk (order.length - (i + 1)) (by omega) ⟨zsl, zsl, zsl, zsl, zsl, zsl, zsl, i + 1, x, y, true, b', zsl, zsl, zsl, zsl, rfl, hS', (fun _ => by omega), hlt, rfl⟩
    ·have hc9 : ¬ (x : Int) < ((ents k).length : Int) := by omega
     have hS' := hS1.mono (i' := i + 1) (N' := (i + 1) * 7696) (by omega) (by omega)
     obtain ⟨km1, km2, ks1, ks2⟩ := hS'.shows hk12 hl12 (by omega)
     have hxe : x ≤ (ents k).length := by omega
     have hye : y ≤ (ents l).length := by omega
     refine runf (an @s2 (an @s3 (an @s9 (an @s10 (an @s11 (an @s12 (an @s15 (an @s17 (an @s18 (an @s19 (an @s20 (an @hg (an @hszo (an @hlt' @hat)))))))))))))) ?_
     refine call_mk (AC.bx kr _) ?_
     refine runf (an @s2 (an @s3 (an @s9 (an @s10 (an @s11 (an @s12 (an @s15 (an @s17 (an @s18 (an @s19 (an @s20 (an @hg (an @hszo (an @hlt' (an @hat (an @hord @hc9)))))))))))))))) ?_
     refine call_mk (AC.bx kev _) ?_
     refine runf (an @s2 (an @s3 (an @s9 (an @s10 (an @s11 (an @s12 (an @s15 (an @s17 (an @s18 (an @s19 (an @s20 (an @hg (an @hszo (an @hlt' (an @hat (an @hord @hc9)))))))))))))))) ?_
     refine call_mk ⟨fun R => AC.bx km1 _, rfl⟩ ?_
     refine runf (an @s2 (an @s3 (an @s9 (an @s10 (an @s11 (an @s12 (an @s15 (an @s17 (an @s18 (an @s19 (an @s20 (an @hszk (an @hszl (an @hxe @hye)))))))))))))) ?_
     refine cp ks1 ?_
     refine runf (an @s2 (an @s3 (an @s9 (an @s10 (an @s11 (an @s12 (an @s15 (an @s17 (an @s18 (an @s19 (an @s20 (an @hszk (an @hszl (an @hxe @hye)))))))))))))) ?_
     refine call_mk ⟨fun R => AC.bx km2 _, rfl⟩ ?_
     refine runf (an @s2 (an @s3 (an @s9 (an @s10 (an @s11 (an @s12 (an @s15 (an @s17 (an @s18 (an @s19 (an @s20 (an @hszk (an @hszl (an @hxe @hye)))))))))))))) ?_
     refine cp ks2 ?_
     refine runf (an @s2 (an @s3 (an @s9 (an @s10 (an @s11 (an @s12 (an @s15 (an @s17 (an @s18 (an @s19 (an @s20 (an @hszk (an @hszl (an @hxe (an @hye @w4))))))))))))))) ?_
     exact round_mk (order.length - (i + 1)) (by omega) ⟨zsl, zsl, zsl, zsl, zsl, zsl, zsl, i + 1, x, y, true, b1, zsl, zsl, zsl, zsl, rfl, hS', (fun _ => by omega), hlt, rfl⟩
   | false =>
    by_cases hyl : y + 1 ≤ l.length
    ·have hc9 : (y : Int) < ((ents l).length : Int) := by omega
     obtain ⟨b', kt, hS'⟩ := hS1.b2 (by omega) hl12 (by omega) (by omega) hyl
     replace hS' := hS'.mono (Nat.le_refl _) (N' := (i + 1) * 7696) (by omega)
     obtain ⟨km1, km2, ks1, ks2⟩ := hS'.shows hk12 hl12 (by omega)
     have kb := batch47_c 2 (.inr rfl) (ents l) (by omega) (ents_iz (l := l) (by omega)) y (y + 1) (Nat.lt_succ_self y) (by omega)
     have hxe : x ≤ (ents k).length := by omega
     have hye : (y + 1) ≤ (ents l).length := by omega
     refine runf (an @s2 (an @s3 (an @s9 (an @s10 (an @s11 (an @s12 (an @s15 (an @s17 (an @s18 (an @s19 (an @s20 (an @hg (an @hszo (an @hlt' @hat)))))))))))))) ?_
     refine call_mk (AC.bx kr _) ?_
     refine runf (an @s2 (an @s3 (an @s9 (an @s10 (an @s11 (an @s12 (an @s15 (an @s17 (an @s18 (an @s19 (an @s20 (an @hg (an @hszo (an @hlt' (an @hat (an @hord @hc9)))))))))))))))) ?_
     refine call_mk (AC.bx kev _) ?_
     refine runf (an @s2 (an @s3 (an @s9 (an @s10 (an @s11 (an @s12 (an @s15 (an @s17 (an @s18 (an @s19 (an @s20 (an @hg (an @hszo (an @hlt' (an @hat (an @hord @hc9)))))))))))))))) ?_
     refine cp kb ?_
     refine runf (an @s2 (an @s3 (an @s9 (an @s10 (an @s11 (an @s12 (an @s15 (an @s17 (an @s18 (an @s19 (an @s20 (an @hg (an @hszo (an @hlt' (an @hat (an @hord (an @hc9 @wy))))))))))))))))) ?_
     refine call_mk (AC.bx kt _) ?_
     refine runf (an @s2 (an @s3 (an @s9 (an @s10 (an @s11 (an @s12 (an @s15 (an @s17 (an @s18 (an @s19 (an @s20 (an @hg (an @hszo (an @hlt' (an @hat (an @hord (an @hc9 @wy))))))))))))))))) ?_
     refine call_mk ⟨fun R => AC.bx km1 _, rfl⟩ ?_
     refine runf (an @s2 (an @s3 (an @s9 (an @s10 (an @s11 (an @s12 (an @s15 (an @s17 (an @s18 (an @s19 (an @s20 (an @hszk (an @hszl (an @hxe @hye)))))))))))))) ?_
     refine cp ks1 ?_
     refine runf (an @s2 (an @s3 (an @s9 (an @s10 (an @s11 (an @s12 (an @s15 (an @s17 (an @s18 (an @s19 (an @s20 (an @hszk (an @hszl (an @hxe @hye)))))))))))))) ?_
     refine call_mk ⟨fun R => AC.bx km2 _, rfl⟩ ?_
     refine runf (an @s2 (an @s3 (an @s9 (an @s10 (an @s11 (an @s12 (an @s15 (an @s17 (an @s18 (an @s19 (an @s20 (an @hszk (an @hszl (an @hxe @hye)))))))))))))) ?_
     refine cp ks2 ?_
     refine runf (an @s2 (an @s3 (an @s9 (an @s10 (an @s11 (an @s12 (an @s15 (an @s17 (an @s18 (an @s19 (an @s20 (an @hszk (an @hszl (an @hxe (an @hye @w4))))))))))))))) ?_
     exact round_mk (order.length - (i + 1)) (by omega) ⟨zsl, zsl, zsl, zsl, zsl, zsl, zsl, i + 1, x, (y + 1), true, b', zsl, zsl, zsl, zsl, rfl, hS', (fun _ => by omega), hlt, rfl⟩
    ·have hc9 : ¬ (y : Int) < ((ents l).length : Int) := by omega
     have hS' := hS1.mono (i' := i + 1) (N' := (i + 1) * 7696) (by omega) (by omega)
     obtain ⟨km1, km2, ks1, ks2⟩ := hS'.shows hk12 hl12 (by omega)
     have hxe : x ≤ (ents k).length := by omega
     have hye : y ≤ (ents l).length := by omega
     refine runf (an @s2 (an @s3 (an @s9 (an @s10 (an @s11 (an @s12 (an @s15 (an @s17 (an @s18 (an @s19 (an @s20 (an @hg (an @hszo (an @hlt' @hat)))))))))))))) ?_
     refine call_mk (AC.bx kr _) ?_
     refine runf (an @s2 (an @s3 (an @s9 (an @s10 (an @s11 (an @s12 (an @s15 (an @s17 (an @s18 (an @s19 (an @s20 (an @hg (an @hszo (an @hlt' (an @hat (an @hord @hc9)))))))))))))))) ?_
     refine call_mk (AC.bx kev _) ?_
     refine runf (an @s2 (an @s3 (an @s9 (an @s10 (an @s11 (an @s12 (an @s15 (an @s17 (an @s18 (an @s19 (an @s20 (an @hg (an @hszo (an @hlt' (an @hat (an @hord @hc9)))))))))))))))) ?_
     refine call_mk ⟨fun R => AC.bx km1 _, rfl⟩ ?_
     refine runf (an @s2 (an @s3 (an @s9 (an @s10 (an @s11 (an @s12 (an @s15 (an @s17 (an @s18 (an @s19 (an @s20 (an @hszk (an @hszl (an @hxe @hye)))))))))))))) ?_
     refine cp ks1 ?_
     refine runf (an @s2 (an @s3 (an @s9 (an @s10 (an @s11 (an @s12 (an @s15 (an @s17 (an @s18 (an @s19 (an @s20 (an @hszk (an @hszl (an @hxe @hye)))))))))))))) ?_
     refine call_mk ⟨fun R => AC.bx km2 _, rfl⟩ ?_
     refine runf (an @s2 (an @s3 (an @s9 (an @s10 (an @s11 (an @s12 (an @s15 (an @s17 (an @s18 (an @s19 (an @s20 (an @hszk (an @hszl (an @hxe @hye)))))))))))))) ?_
     refine cp ks2 ?_
     refine runf (an @s2 (an @s3 (an @s9 (an @s10 (an @s11 (an @s12 (an @s15 (an @s17 (an @s18 (an @s19 (an @s20 (an @hszk (an @hszl (an @hxe (an @hye @w4))))))))))))))) ?_
     exact round_mk (order.length - (i + 1)) (by omega) ⟨zsl, zsl, zsl, zsl, zsl, zsl, zsl, i + 1, x, y, true, b1, zsl, zsl, zsl, zsl, rfl, hS', (fun _ => by omega), hlt, rfl⟩
  ·have hat : ((i : Int) == at_) = false := beq_eq_false_iff_ne.2 hq
   cases cv with
   | false =>
    cases hord : order[i] with
    | true =>
     by_cases hxl : x + 1 ≤ k.length
     ·have hc9 : (x : Int) < ((ents k).length : Int) := by omega
      obtain ⟨b', kt, hS'⟩ := hSr.a (by omega) hk12 (by omega) (by omega) hxl
      replace hS' := hS'.mono (Nat.le_refl _) (N' := (i + 1) * 7696) (by omega)
      obtain ⟨km1, km2, ks1, ks2⟩ := hS'.shows hk12 hl12 (by omega)
      have kb := batch47_c 1 (.inl rfl) (ents k) (by omega) (ents_iz (l := k) (by omega)) x (x + 1) (Nat.lt_succ_self x) (by omega)
      have hxe : (x + 1) ≤ (ents k).length := by omega
      have hye : y ≤ (ents l).length := by omega
      refine runf (an @s2 (an @s3 (an @s9 (an @s10 (an @s11 (an @s12 (an @s15 (an @s17 (an @s18 (an @s19 (an @s20 (an @hg (an @hszo (an @hlt' @hat)))))))))))))) ?_
      refine call_mk (AC.bx kr _) ?_
      refine runf (an @s2 (an @s3 (an @s9 (an @s10 (an @s11 (an @s12 (an @s15 (an @s17 (an @s18 (an @s19 (an @s20 (an @hg (an @hszo (an @hlt' (an @hat (an @hord @hc9)))))))))))))))) ?_
      refine cp kb ?_
      refine runf (an @s2 (an @s3 (an @s9 (an @s10 (an @s11 (an @s12 (an @s15 (an @s17 (an @s18 (an @s19 (an @s20 (an @hg (an @hszo (an @hlt' (an @hat (an @hord (an @hc9 @wx))))))))))))))))) ?_
      refine call_mk (AC.bx kt _) ?_
      refine runf (an @s2 (an @s3 (an @s9 (an @s10 (an @s11 (an @s12 (an @s15 (an @s17 (an @s18 (an @s19 (an @s20 (an @hg (an @hszo (an @hlt' (an @hat (an @hord (an @hc9 @wx))))))))))))))))) ?_
      refine call_mk ⟨fun R => AC.bx km1 _, rfl⟩ ?_
      refine runf (an @s2 (an @s3 (an @s9 (an @s10 (an @s11 (an @s12 (an @s15 (an @s17 (an @s18 (an @s19 (an @s20 (an @hszk (an @hszl (an @hxe @hye)))))))))))))) ?_
      refine cp ks1 ?_
      refine runf (an @s2 (an @s3 (an @s9 (an @s10 (an @s11 (an @s12 (an @s15 (an @s17 (an @s18 (an @s19 (an @s20 (an @hszk (an @hszl (an @hxe @hye)))))))))))))) ?_
      refine call_mk ⟨fun R => AC.bx km2 _, rfl⟩ ?_
      refine runf (an @s2 (an @s3 (an @s9 (an @s10 (an @s11 (an @s12 (an @s15 (an @s17 (an @s18 (an @s19 (an @s20 (an @hszk (an @hszl (an @hxe @hye)))))))))))))) ?_
      refine cp ks2 ?_
      refine runf (an @s2 (an @s3 (an @s9 (an @s10 (an @s11 (an @s12 (an @s15 (an @s17 (an @s18 (an @s19 (an @s20 (an @hszk (an @hszl (an @hxe (an @hye @w4))))))))))))))) ?_
      exact round_mk (order.length - (i + 1)) (by omega) ⟨zsl, zsl, zsl, zsl, zsl, zsl, zsl, i + 1, (x + 1), y, false, b', zsl, zsl, zsl, zsl, rfl, hS', (by intro h; cases h), hlt, rfl⟩
     ·have hc9 : ¬ (x : Int) < ((ents k).length : Int) := by omega
      have hS' := hSr.mono (i' := i + 1) (N' := (i + 1) * 7696) (by omega) (by omega)
      obtain ⟨km1, km2, ks1, ks2⟩ := hS'.shows hk12 hl12 (by omega)
      have hxe : x ≤ (ents k).length := by omega
      have hye : y ≤ (ents l).length := by omega
      refine runf (an @s2 (an @s3 (an @s9 (an @s10 (an @s11 (an @s12 (an @s15 (an @s17 (an @s18 (an @s19 (an @s20 (an @hg (an @hszo (an @hlt' @hat)))))))))))))) ?_
      refine call_mk (AC.bx kr _) ?_
      refine runf (an @s2 (an @s3 (an @s9 (an @s10 (an @s11 (an @s12 (an @s15 (an @s17 (an @s18 (an @s19 (an @s20 (an @hg (an @hszo (an @hlt' (an @hat (an @hord @hc9)))))))))))))))) ?_
      refine call_mk ⟨fun R => AC.bx km1 _, rfl⟩ ?_
      refine runf (an @s2 (an @s3 (an @s9 (an @s10 (an @s11 (an @s12 (an @s15 (an @s17 (an @s18 (an @s19 (an @s20 (an @hszk (an @hszl (an @hxe @hye)))))))))))))) ?_
      refine cp ks1 ?_
      refine runf (an @s2 (an @s3 (an @s9 (an @s10 (an @s11 (an @s12 (an @s15 (an @s17 (an @s18 (an @s19 (an @s20 (an @hszk (an @hszl (an @hxe @hye)))))))))))))) ?_
      refine call_mk ⟨fun R => AC.bx km2 _, rfl⟩ ?_
      refine runf (an @s2 (an @s3 (an @s9 (an @s10 (an @s11 (an @s12 (an @s15 (an @s17 (an @s18 (an @s19 (an @s20 (an @hszk (an @hszl (an @hxe @hye)))))))))))))) ?_
      refine cp ks2 ?_
      refine runf (an @s2 (an @s3 (an @s9 (an @s10 (an @s11 (an @s12 (an @s15 (an @s17 (an @s18 (an @s19 (an @s20 (an @hszk (an @hszl (an @hxe (an @hye @w4))))))))))))))) ?_
      exact round_mk (order.length - (i + 1)) (by omega) ⟨zsl, zsl, zsl, zsl, zsl, zsl, zsl, i + 1, x, y, false, br, zsl, zsl, zsl, zsl, rfl, hS', (by intro h; cases h), hlt, rfl⟩
    | false =>
     by_cases hyl : y + 1 ≤ l.length
     ·have hc9 : (y : Int) < ((ents l).length : Int) := by omega
      obtain ⟨b', kt, hS'⟩ := hSr.b2 (by omega) hl12 (by omega) (by omega) hyl
      replace hS' := hS'.mono (Nat.le_refl _) (N' := (i + 1) * 7696) (by omega)
      obtain ⟨km1, km2, ks1, ks2⟩ := hS'.shows hk12 hl12 (by omega)
      have kb := batch47_c 2 (.inr rfl) (ents l) (by omega) (ents_iz (l := l) (by omega)) y (y + 1) (Nat.lt_succ_self y) (by omega)
      have hxe : x ≤ (ents k).length := by omega
      have hye : (y + 1) ≤ (ents l).length := by omega
      refine runf (an @s2 (an @s3 (an @s9 (an @s10 (an @s11 (an @s12 (an @s15 (an @s17 (an @s18 (an @s19 (an @s20 (an @hg (an @hszo (an @hlt' @hat)))))))))))))) ?_
      refine call_mk (AC.bx kr _) ?_
      refine runf (an @s2 (an @s3 (an @s9 (an @s10 (an @s11 (an @s12 (an @s15 (an @s17 (an @s18 (an @s19 (an @s20 (an @hg (an @hszo (an @hlt' (an @hat (an @hord @hc9)))))))))))))))) ?_
      refine cp kb ?_
      refine runf (an @s2 (an @s3 (an @s9 (an @s10 (an @s11 (an @s12 (an @s15 (an @s17 (an @s18 (an @s19 (an @s20 (an @hg (an @hszo (an @hlt' (an @hat (an @hord (an @hc9 @wy))))))))))))))))) ?_
      refine call_mk (AC.bx kt _) ?_
      refine runf (an @s2 (an @s3 (an @s9 (an @s10 (an @s11 (an @s12 (an @s15 (an @s17 (an @s18 (an @s19 (an @s20 (an @hg (an @hszo (an @hlt' (an @hat (an @hord (an @hc9 @wy))))))))))))))))) ?_
      refine call_mk ⟨fun R => AC.bx km1 _, rfl⟩ ?_
      refine runf (an @s2 (an @s3 (an @s9 (an @s10 (an @s11 (an @s12 (an @s15 (an @s17 (an @s18 (an @s19 (an @s20 (an @hszk (an @hszl (an @hxe @hye)))))))))))))) ?_
      refine cp ks1 ?_
      refine runf (an @s2 (an @s3 (an @s9 (an @s10 (an @s11 (an @s12 (an @s15 (an @s17 (an @s18 (an @s19 (an @s20 (an @hszk (an @hszl (an @hxe @hye)))))))))))))) ?_
      refine call_mk ⟨fun R => AC.bx km2 _, rfl⟩ ?_
      refine runf (an @s2 (an @s3 (an @s9 (an @s10 (an @s11 (an @s12 (an @s15 (an @s17 (an @s18 (an @s19 (an @s20 (an @hszk (an @hszl (an @hxe @hye)))))))))))))) ?_
      refine cp ks2 ?_
      refine runf (an @s2 (an @s3 (an @s9 (an @s10 (an @s11 (an @s12 (an @s15 (an @s17 (an @s18 (an @s19 (an @s20 (an @hszk (an @hszl (an @hxe (an @hye @w4))))))))))))))) ?_
      exact round_mk (order.length - (i + 1)) (by omega) ⟨zsl, zsl, zsl, zsl, zsl, zsl, zsl, i + 1, x, (y + 1), false, b', zsl, zsl, zsl, zsl, rfl, hS', (by intro h; cases h), hlt, rfl⟩
     ·have hc9 : ¬ (y : Int) < ((ents l).length : Int) := by omega
      have hS' := hSr.mono (i' := i + 1) (N' := (i + 1) * 7696) (by omega) (by omega)
      obtain ⟨km1, km2, ks1, ks2⟩ := hS'.shows hk12 hl12 (by omega)
      have hxe : x ≤ (ents k).length := by omega
      have hye : y ≤ (ents l).length := by omega
      refine runf (an @s2 (an @s3 (an @s9 (an @s10 (an @s11 (an @s12 (an @s15 (an @s17 (an @s18 (an @s19 (an @s20 (an @hg (an @hszo (an @hlt' @hat)))))))))))))) ?_
      refine call_mk (AC.bx kr _) ?_
      refine runf (an @s2 (an @s3 (an @s9 (an @s10 (an @s11 (an @s12 (an @s15 (an @s17 (an @s18 (an @s19 (an @s20 (an @hg (an @hszo (an @hlt' (an @hat (an @hord @hc9)))))))))))))))) ?_
      refine call_mk ⟨fun R => AC.bx km1 _, rfl⟩ ?_
      refine runf (an @s2 (an @s3 (an @s9 (an @s10 (an @s11 (an @s12 (an @s15 (an @s17 (an @s18 (an @s19 (an @s20 (an @hszk (an @hszl (an @hxe @hye)))))))))))))) ?_
      refine cp ks1 ?_
      refine runf (an @s2 (an @s3 (an @s9 (an @s10 (an @s11 (an @s12 (an @s15 (an @s17 (an @s18 (an @s19 (an @s20 (an @hszk (an @hszl (an @hxe @hye)))))))))))))) ?_
      refine call_mk ⟨fun R => AC.bx km2 _, rfl⟩ ?_
      refine runf (an @s2 (an @s3 (an @s9 (an @s10 (an @s11 (an @s12 (an @s15 (an @s17 (an @s18 (an @s19 (an @s20 (an @hszk (an @hszl (an @hxe @hye)))))))))))))) ?_
      refine cp ks2 ?_
      refine runf (an @s2 (an @s3 (an @s9 (an @s10 (an @s11 (an @s12 (an @s15 (an @s17 (an @s18 (an @s19 (an @s20 (an @hszk (an @hszl (an @hxe (an @hye @w4))))))))))))))) ?_
      exact round_mk (order.length - (i + 1)) (by omega) ⟨zsl, zsl, zsl, zsl, zsl, zsl, zsl, i + 1, x, y, false, br, zsl, zsl, zsl, zsl, rfl, hS', (by intro h; cases h), hlt, rfl⟩
   | true =>
    have hcv' := hcv rfl
    cases hord : order[i] with
    | true =>
     by_cases hxl : x + 1 ≤ k.length
     ·have hc9 : (x : Int) < ((ents k).length : Int) := by omega
      obtain ⟨b', kt, hS'⟩ := hSr.acv (by omega) hk12 (by omega) (by omega) hxl
      replace hS' := hS'.mono (Nat.le_refl _) (N' := (i + 1) * 7696) (by omega)
      obtain ⟨km1, km2, ks1, ks2⟩ := hS'.shows hk12 hl12 (by omega)
      have kb := batch47_c 1 (.inl rfl) (ents k) (by omega) (ents_iz (l := k) (by omega)) x (x + 1) (Nat.lt_succ_self x) (by omega)
      have hxe : x ≤ (ents k).length := by omega
      have hye : y ≤ (ents l).length := by omega
      refine runf (an @s2 (an @s3 (an @s9 (an @s10 (an @s11 (an @s12 (an @s15 (an @s17 (an @s18 (an @s19 (an @s20 (an @hg (an @hszo (an @hlt' @hat)))))))))))))) ?_
      refine call_mk (AC.bx kr _) ?_
      refine runf (an @s2 (an @s3 (an @s9 (an @s10 (an @s11 (an @s12 (an @s15 (an @s17 (an @s18 (an @s19 (an @s20 (an @hg (an @hszo (an @hlt' (an @hat (an @hord @hc9)))))))))))))))) ?_
      refine cp kb ?_
      refine runf (an @s2 (an @s3 (an @s9 (an @s10 (an @s11 (an @s12 (an @s15 (an @s17 (an @s18 (an @s19 (an @s20 (an @hg (an @hszo (an @hlt' (an @hat (an @hord (an @hc9 @wx))))))))))))))))) ?_
      refine call_mk (AC.bx kt _) ?_
      refine runf (an @s2 (an @s3 (an @s9 (an @s10 (an @s11 (an @s12 (an @s15 (an @s17 (an @s18 (an @s19 (an @s20 (an @hg (an @hszo (an @hlt' (an @hat (an @hord (an @hc9 @wx))))))))))))))))) ?_
      refine call_mk ⟨fun R => AC.bx km1 _, rfl⟩ ?_
      refine runf (an @s2 (an @s3 (an @s9 (an @s10 (an @s11 (an @s12 (an @s15 (an @s17 (an @s18 (an @s19 (an @s20 (an @hszk (an @hszl (an @hxe @hye)))))))))))))) ?_
      refine cp ks1 ?_
      refine runf (an @s2 (an @s3 (an @s9 (an @s10 (an @s11 (an @s12 (an @s15 (an @s17 (an @s18 (an @s19 (an @s20 (an @hszk (an @hszl (an @hxe @hye)))))))))))))) ?_
      refine call_mk ⟨fun R => AC.bx km2 _, rfl⟩ ?_
      refine runf (an @s2 (an @s3 (an @s9 (an @s10 (an @s11 (an @s12 (an @s15 (an @s17 (an @s18 (an @s19 (an @s20 (an @hszk (an @hszl (an @hxe @hye)))))))))))))) ?_
      refine cp ks2 ?_
      refine runf (an @s2 (an @s3 (an @s9 (an @s10 (an @s11 (an @s12 (an @s15 (an @s17 (an @s18 (an @s19 (an @s20 (an @hszk (an @hszl (an @hxe (an @hye @w4))))))))))))))) ?_
      exact round_mk (order.length - (i + 1)) (by omega) ⟨zsl, zsl, zsl, zsl, zsl, zsl, zsl, i + 1, x, y, true, b', zsl, zsl, zsl, zsl, rfl, hS', (fun _ => by omega), hlt, rfl⟩
     ·have hc9 : ¬ (x : Int) < ((ents k).length : Int) := by omega
      have hS' := hSr.mono (i' := i + 1) (N' := (i + 1) * 7696) (by omega) (by omega)
      obtain ⟨km1, km2, ks1, ks2⟩ := hS'.shows hk12 hl12 (by omega)
      have hxe : x ≤ (ents k).length := by omega
      have hye : y ≤ (ents l).length := by omega
      refine runf (an @s2 (an @s3 (an @s9 (an @s10 (an @s11 (an @s12 (an @s15 (an @s17 (an @s18 (an @s19 (an @s20 (an @hg (an @hszo (an @hlt' @hat)))))))))))))) ?_
      refine call_mk (AC.bx kr _) ?_
      refine runf (an @s2 (an @s3 (an @s9 (an @s10 (an @s11 (an @s12 (an @s15 (an @s17 (an @s18 (an @s19 (an @s20 (an @hg (an @hszo (an @hlt' (an @hat (an @hord @hc9)))))))))))))))) ?_
      refine call_mk ⟨fun R => AC.bx km1 _, rfl⟩ ?_
      refine runf (an @s2 (an @s3 (an @s9 (an @s10 (an @s11 (an @s12 (an @s15 (an @s17 (an @s18 (an @s19 (an @s20 (an @hszk (an @hszl (an @hxe @hye)))))))))))))) ?_
      refine cp ks1 ?_
      refine runf (an @s2 (an @s3 (an @s9 (an @s10 (an @s11 (an @s12 (an @s15 (an @s17 (an @s18 (an @s19 (an @s20 (an @hszk (an @hszl (an @hxe @hye)))))))))))))) ?_
      refine call_mk ⟨fun R => AC.bx km2 _, rfl⟩ ?_
      refine runf (an @s2 (an @s3 (an @s9 (an @s10 (an @s11 (an @s12 (an @s15 (an @s17 (an @s18 (an @s19 (an @s20 (an @hszk (an @hszl (an @hxe @hye)))))))))))))) ?_
      refine cp ks2 ?_
      refine runf (an @s2 (an @s3 (an @s9 (an @s10 (an @s11 (an @s12 (an @s15 (an @s17 (an @s18 (an @s19 (an @s20 (an @hszk (an @hszl (an @hxe (an @hye @w4))))))))))))))) ?_
      exact round_mk (order.length - (i + 1)) (by omega) ⟨zsl, zsl, zsl, zsl, zsl, zsl, zsl, i + 1, x, y, true, br, zsl, zsl, zsl, zsl, rfl, hS', (fun _ => by omega), hlt, rfl⟩
    | false =>
     by_cases hyl : y + 1 ≤ l.length
     ·have hc9 : (y : Int) < ((ents l).length : Int) := by omega
      obtain ⟨b', kt, hS'⟩ := hSr.b2 (by omega) hl12 (by omega) (by omega) hyl
      replace hS' := hS'.mono (Nat.le_refl _) (N' := (i + 1) * 7696) (by omega)
      obtain ⟨km1, km2, ks1, ks2⟩ := hS'.shows hk12 hl12 (by omega)
      have kb := batch47_c 2 (.inr rfl) (ents l) (by omega) (ents_iz (l := l) (by omega)) y (y + 1) (Nat.lt_succ_self y) (by omega)
      have hxe : x ≤ (ents k).length := by omega
      have hye : (y + 1) ≤ (ents l).length := by omega
      refine runf (an @s2 (an @s3 (an @s9 (an @s10 (an @s11 (an @s12 (an @s15 (an @s17 (an @s18 (an @s19 (an @s20 (an @hg (an @hszo (an @hlt' @hat)))))))))))))) ?_
      refine call_mk (AC.bx kr _) ?_
      refine runf (an @s2 (an @s3 (an @s9 (an @s10 (an @s11 (an @s12 (an @s15 (an @s17 (an @s18 (an @s19 (an @s20 (an @hg (an @hszo (an @hlt' (an @hat (an @hord @hc9)))))))))))))))) ?_
      refine cp kb ?_
      refine runf (an @s2 (an @s3 (an @s9 (an @s10 (an @s11 (an @s12 (an @s15 (an @s17 (an @s18 (an @s19 (an @s20 (an @hg (an @hszo (an @hlt' (an @hat (an @hord (an @hc9 @wy))))))))))))))))) ?_
      refine call_mk (AC.bx kt _) ?_
      refine runf (an @s2 (an @s3 (an @s9 (an @s10 (an @s11 (an @s12 (an @s15 (an @s17 (an @s18 (an @s19 (an @s20 (an @hg (an @hszo (an @hlt' (an @hat (an @hord (an @hc9 @wy))))))))))))))))) ?_
      refine call_mk ⟨fun R => AC.bx km1 _, rfl⟩ ?_
      refine runf (an @s2 (an @s3 (an @s9 (an @s10 (an @s11 (an @s12 (an @s15 (an @s17 (an @s18 (an @s19 (an @s20 (an @hszk (an @hszl (an @hxe @hye)))))))))))))) ?_
      refine cp ks1 ?_
      refine runf (an @s2 (an @s3 (an @s9 (an @s10 (an @s11 (an @s12 (an @s15 (an @s17 (an @s18 (an @s19 (an @s20 (an @hszk (an @hszl (an @hxe @hye)))))))))))))) ?_
      refine call_mk ⟨fun R => AC.bx km2 _, rfl⟩ ?_
      refine runf (an @s2 (an @s3 (an @s9 (an @s10 (an @s11 (an @s12 (an @s15 (an @s17 (an @s18 (an @s19 (an @s20 (an @hszk (an @hszl (an @hxe @hye)))))))))))))) ?_
      refine cp ks2 ?_
      refine runf (an @s2 (an @s3 (an @s9 (an @s10 (an @s11 (an @s12 (an @s15 (an @s17 (an @s18 (an @s19 (an @s20 (an @hszk (an @hszl (an @hxe (an @hye @w4))))))))))))))) ?_
      exact round_mk (order.length - (i + 1)) (by omega) ⟨zsl, zsl, zsl, zsl, zsl, zsl, zsl, i + 1, x, (y + 1), true, b', zsl, zsl, zsl, zsl, rfl, hS', (fun _ => by omega), hlt, rfl⟩
     ·have hc9 : ¬ (y : Int) < ((ents l).length : Int) := by omega
      have hS' := hSr.mono (i' := i + 1) (N' := (i + 1) * 7696) (by omega) (by omega)
      obtain ⟨km1, km2, ks1, ks2⟩ := hS'.shows hk12 hl12 (by omega)
      have hxe : x ≤ (ents k).length := by omega
      have hye : y ≤ (ents l).length := by omega
      refine runf (an @s2 (an @s3 (an @s9 (an @s10 (an @s11 (an @s12 (an @s15 (an @s17 (an @s18 (an @s19 (an @s20 (an @hg (an @hszo (an @hlt' @hat)))))))))))))) ?_
      refine call_mk (AC.bx kr _) ?_
      refine runf (an @s2 (an @s3 (an @s9 (an @s10 (an @s11 (an @s12 (an @s15 (an @s17 (an @s18 (an @s19 (an @s20 (an @hg (an @hszo (an @hlt' (an @hat (an @hord @hc9)))))))))))))))) ?_
      refine call_mk ⟨fun R => AC.bx km1 _, rfl⟩ ?_
      refine runf (an @s2 (an @s3 (an @s9 (an @s10 (an @s11 (an @s12 (an @s15 (an @s17 (an @s18 (an @s19 (an @s20 (an @hszk (an @hszl (an @hxe @hye)))))))))))))) ?_
      refine cp ks1 ?_
      refine runf (an @s2 (an @s3 (an @s9 (an @s10 (an @s11 (an @s12 (an @s15 (an @s17 (an @s18 (an @s19 (an @s20 (an @hszk (an @hszl (an @hxe @hye)))))))))))))) ?_
      refine call_mk ⟨fun R => AC.bx km2 _, rfl⟩ ?_
      refine runf (an @s2 (an @s3 (an @s9 (an @s10 (an @s11 (an @s12 (an @s15 (an @s17 (an @s18 (an @s19 (an @s20 (an @hszk (an @hszl (an @hxe @hye)))))))))))))) ?_
      refine cp ks2 ?_
      refine runf (an @s2 (an @s3 (an @s9 (an @s10 (an @s11 (an @s12 (an @s15 (an @s17 (an @s18 (an @s19 (an @s20 (an @hszk (an @hszl (an @hxe (an @hye @w4))))))))))))))) ?_
      exact round_mk (order.length - (i + 1)) (by omega) ⟨zsl, zsl, zsl, zsl, zsl, zsl, zsl, i + 1, x, y, true, br, zsl, zsl, zsl, zsl, rfl, hS', (fun _ => by omega), hlt, rfl⟩
 ·obtain rfl : i = order.length := by omega
  have hlt' : ¬ (order.length : Int) < (order.length : Int) := by omega
  obtain ⟨ki, ko, hi1, hi2⟩ := hS.items hk12 hl12
  have hx0 := hS.m1.le
  have hy0 := hS.m2.le
  generalize b.items false = I1 at *
  generalize b.items true = I2 at *
  cases cv with
  | false =>
   have hi1' : (I1.length : Int) = (x : Int) + (y : Int) := by rw [hi1]; simp
   have hi2' : (I2.length : Int) = 0 := by rw [hi2]; simp
   have wxy : IntKind.i64.wrap ((x : Int) + (y : Int)) = (x : Int) + (y : Int) := wrap64 (by omega) (by omega)
   refine runf (an @s2 (an @s3 (an @s9 (an @s10 (an @s11 (an @s12 (an @s15 (an @s17 (an @s18 (an @s19 (an @s20 @hlt'))))))))))) ?_
   refine call_mk (AC.bx ki _) ?_
   refine runf (an @s2 (an @s3 (an @s9 (an @s10 (an @s11 (an @s12 (an @s15 (an @s17 (an @s18 (an @s19 @s20)))))))))) ?_
   refine call_mk (AC.bx ko _) ?_
   refine runf (an @s2 (an @s3 (an @s9 (an @s10 (an @s11 (an @s12 (an @s15 (an @s17 (an @s18 (an @s19 (an @s20 (an @hi1' (an @hi2' @wxy))))))))))))) ?_
   exact er0
  | true =>
   have hi1' : (I1.length : Int) = (y : Int) := by rw [hi1]; simp
   have hi2' : (I2.length : Int) = (x : Int) := by rw [hi2]; simp
   refine runf (an @s2 (an @s3 (an @s9 (an @s10 (an @s11 (an @s12 (an @s15 (an @s17 (an @s18 (an @s19 (an @s20 @hlt'))))))))))) ?_
   refine call_mk (AC.bx ki _) ?_
   refine runf (an @s2 (an @s3 (an @s9 (an @s10 (an @s11 (an @s12 (an @s15 (an @s17 (an @s18 (an @s19 @s20)))))))))) ?_
   refine call_mk (AC.bx ko _) ?_
   refine runf (an @s2 (an @s3 (an @s9 (an @s10 (an @s11 (an @s12 (an @s15 (an @s17 (an @s18 (an @s19 (an @s20 (an @hi1' @hi2')))))))))))) ?_
   exact er0
end Go.Proofs.YtleljbiejeofgaaGreatDoor.Pe
end
