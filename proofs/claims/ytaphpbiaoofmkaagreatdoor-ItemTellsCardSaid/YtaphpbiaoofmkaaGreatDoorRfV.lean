/- Reference 13 on plain values: reading, digests, signatures. Printed by tools/mkrfv.py. -/
import Derived.Test.YtaphpbiaoofmkaaGreatDoorRfT
import Derived.Test.YtaphpbiaoofmkaaGreatDoorRfG
import Derived.Test.YtaphpbiaoofmkaaGreatDoorRfM
set_option linter.unusedSectionVars false
set_option linter.unusedVariables false
set_option linter.unusedSimpArgs false
namespace Go.Proofs.YtaphpbiaoofmkaaGreatDoor.It
open Go Co Sg Ac
theorem rdN_suffix : ∀ (l : By) (i n m : Nat) (r : By), rdN l i n = some (m, r) → r <:+ l
 | [], _, _, _, _, h => by cases h
 | d :: l, i, n, m, r, h => by
  rw [rdN_cons] at h
  split at h
  ·cases h
  split at h
  ·exact (rdN_suffix l _ _ m r h).trans (List.suffix_cons d l)
  split at h
  ·cases h
  ·cases h; exact List.suffix_cons d _
theorem num_suffix (x : R) : x.num.2.rest = x.rest.drop (x.rest.length - x.num.2.rest.length) := by
 have h : x.num.2.rest <:+ x.rest := by
  unfold R.num
  split
  ·rename_i n r h; exact rdN_suffix _ _ _ _ _ h
  ·exact List.nil_suffix
 exact List.suffix_iff_eq_drop.1 h
theorem num_wf (s : By) : (R.num ⟨s, false⟩).2.bad = true → (R.num ⟨s, false⟩).2.rest = [] := by
 unfold R.num
 split
 ·intro h; cases h
 ·intro _; rfl
theorem take_rest_all {x : R} (h : x.bad = true → x.rest = []) : (x.take x.rest.length).1 = x.rest := by
 unfold R.take
 cases hb : x.bad with
 | true => rw [if_pos (.inl rfl), h hb]
 | false => rw [if_neg (by simp)]; simp
def parseF (s : By) : Item :=
 if (rNum ⟨s, false⟩).1 = 0 then { item0 with act := (Ac.read (rNum ⟨s, false⟩).2.rest).1 }
 else if (rNum ⟨s, false⟩).1 = 1 then { item0 with kind := 1, claim := (rClaim (rNum ⟨s, false⟩).2).1 }
 else if (rNum ⟨s, false⟩).1 = 2 then { item0 with kind := 2, ballot := (rBallot (rNum ⟨s, false⟩).2).1 }
 else if (rNum ⟨s, false⟩).1 = 3 then { item0 with kind := 3, decision := (rDecision (rNum ⟨s, false⟩).2).1 }
 else { item0 with kind := (rNum ⟨s, false⟩).1 }
theorem parse_item (s : By) : parseF s = (rItem ⟨s, false⟩).1 := by
 have h := take_rest_all (num_wf s)
 unfold parseF rItem
 simp only
 have h' : ((rNum ⟨s, false⟩).2.take (rNum ⟨s, false⟩).2.rest.length).1 = (rNum ⟨s, false⟩).2.rest := h
 by_cases h0 : (rNum ⟨s, false⟩).1 = 0
 ·rw [if_pos h0, if_pos h0]
  simp only [h']
 rw [if_neg h0, if_neg h0]
 by_cases h1 : (rNum ⟨s, false⟩).1 = 1
 ·rw [if_pos h1, if_pos h1]
 rw [if_neg h1, if_neg h1]
 by_cases h2 : (rNum ⟨s, false⟩).1 = 2
 ·rw [if_pos h2, if_pos h2]
 rw [if_neg h2, if_neg h2]
 by_cases h3 : (rNum ⟨s, false⟩).1 = 3
 ·rw [if_pos h3, if_pos h3]
 rw [if_neg h3, if_neg h3]
theorem read13_ref (s : By) : (if s ≠ [] ∧ bytes (parseF s) = s then (parseF s, true) else (item0, false)) = read s := by
 by_cases hc : s ≠ [] ∧ bytes (parseF s) = s
 ·rw [if_pos hc]
  obtain ⟨h1, h2⟩ := hc
  generalize parseF s = A at *
  cases hr : right A with
  | false =>
   rw [bytes_wrong hr] at h2
   exact absurd h2.symm h1
  | true =>
   have := read_bytes hr
   rw [h2] at this
   exact this.symm
 ·rw [if_neg hc]
  cases h : (read s).2 with
  | false =>
   have := read_wrong h
   rw [← this, ← h]
  | true =>
   exfalso
   apply hc
   obtain ⟨h1, h2⟩ := read_right h
   generalize (read s).1 = a at *
   have hb := rItem_back h1 [] (fun _ => rfl)
   rw [List.append_nil, h2] at hb
   rw [parse_item, hb]
   exact ⟨fun e => bytes_ne h1 (h2.trans e), h2⟩
theorem rdN_inv2 : ∀ (l : By) (i n m : Nat) (r : By), rdN l i n = some (m, r) → ∃ k, m = n + k * 2 ^ (7 * i) ∧ l = num k ++ r ∧ (0 < i → 0 < k)
 | [], _, _, _, _, h => by cases h
 | d :: l, i, n, m, r, h => by
  unfold rdN at h
  have hd : d.toNat < 256 := d.toNat_lt
  split at h
  ·cases h
  have hp : 2 ^ (7 * (i + 1)) = 128 * 2 ^ (7 * i) := by rw [show 7 * (i + 1) = 7 + 7 * i from by omega, Nat.pow_add]
  split at h
  ·rename_i h128
   obtain ⟨k, h1, h2, h3⟩ := rdN_inv2 l (i + 1) _ m r h
   have hk := h3 (by omega)
   refine ⟨(d.toNat - 128) + 128 * k, ?_, ?_, fun _ => by omega⟩
   ·rw [h1, hp, Nat.add_mul, Nat.add_assoc]
    congr 2
    rw [Nat.mul_comm 128 k, Nat.mul_assoc]
   ·rw [num_big (by omega), show 128 + ((d.toNat - 128) + 128 * k) % 128 = d.toNat from by omega, show ((d.toNat - 128) + 128 * k) / 128 = k from by omega, UInt8.ofNat_toNat, h2]
    rfl
  ·rename_i h128
   split at h
   ·cases h
   ·rename_i hz
    cases h
    refine ⟨d.toNat, rfl, ?_, fun h0 => by omega⟩
    rw [num_small (by omega), UInt8.ofNat_toNat]
    rfl
theorem num_whole (s : By) (hne : (rNum ⟨s, false⟩).2.rest ≠ []) : numI (rNum ⟨s, false⟩).1 ++ (rNum ⟨s, false⟩).2.rest = s := by
 have hnum : rNum ⟨s, false⟩ = (((R.num ⟨s, false⟩).1 : Int), (R.num ⟨s, false⟩).2) := rfl
 cases hr : rdN s 0 0 with
 | none =>
  have hf : R.num ⟨s, false⟩ = (0, fail) := by unfold R.num; simp only [hr]
  rw [hnum, hf] at hne
  exact absurd rfl hne
 | some p =>
  obtain ⟨m, r⟩ := p
  have hf : R.num ⟨s, false⟩ = (m, ⟨r, false⟩) := by unfold R.num; simp only [hr]
  obtain ⟨k, e1, e2, _⟩ := rdN_inv2 s 0 0 m r hr
  rw [hnum, hf]
  simp only
  have e3 : k = m := by simp at e1; omega
  subst e3
  rw [e2]
  unfold numI
  rw [if_neg (by omega), Int.toNat_natCast]
theorem readEntry_sound {s : By} (h : (readEntry s).2 = true) : isTime (readEntry s).1.time = true ∧ It.right (readEntry s).1.item = true ∧ entryB (readEntry s).1 = s := by
 unfold readEntry at h ⊢
 simp only at h ⊢
 split at h
 ·rename_i hc
  rw [if_pos hc]
  obtain ⟨h1, h2⟩ := hc
  obtain ⟨h3, h4⟩ := read_right h1
  refine ⟨h2, h3, ?_⟩
  unfold entryB
  rw [if_pos (by simp only [h2, h3]; rfl)]
  simp only
  rw [h4]
  have hw := take_rest_all (num_wf s)
  have hw' : ((rNum ⟨s, false⟩).2.take (rNum ⟨s, false⟩).2.rest.length).1 = (rNum ⟨s, false⟩).2.rest := hw
  rw [hw'] at h1 ⊢
  have hne : (rNum ⟨s, false⟩).2.rest ≠ [] := fun e => by
   rw [e] at h1
   have := read_nil
   rw [h1] at this
   cases this
  exact num_whole s hne
 ·cases h
theorem readEntry_ref (s : By) : (if (read (rNum ⟨s, false⟩).2.rest).2 = true ∧ entryB ⟨(rNum ⟨s, false⟩).1, (read (rNum ⟨s, false⟩).2.rest).1⟩ = s then ((⟨(rNum ⟨s, false⟩).1, (read (rNum ⟨s, false⟩).2.rest).1⟩ : Entry), true) else (entry0, false)) = readEntry s := by
 have hw := take_rest_all (num_wf s)
 have hw' : ((rNum ⟨s, false⟩).2.take (rNum ⟨s, false⟩).2.rest.length).1 = (rNum ⟨s, false⟩).2.rest := hw
 have hre : readEntry s = if (read (rNum ⟨s, false⟩).2.rest).2 = true ∧ isTime (rNum ⟨s, false⟩).1 = true then (⟨(rNum ⟨s, false⟩).1, (read (rNum ⟨s, false⟩).2.rest).1⟩, true) else (entry0, false) := by
  unfold readEntry
  simp only [hw']
 by_cases hc : (read (rNum ⟨s, false⟩).2.rest).2 = true ∧ isTime (rNum ⟨s, false⟩).1 = true
 ·have hb : entryB ⟨(rNum ⟨s, false⟩).1, (read (rNum ⟨s, false⟩).2.rest).1⟩ = s := by
   have h2 : (readEntry s).2 = true := by rw [hre, if_pos hc]
   have := (readEntry_sound h2).2.2
   rwa [hre, if_pos hc] at this
  rw [hre, if_pos hc, if_pos ⟨hc.1, hb⟩]
 ·rw [hre, if_neg hc]
  refine if_neg fun h => hc ⟨h.1, ?_⟩
  have hne : entryB ⟨(rNum ⟨s, false⟩).1, (read (rNum ⟨s, false⟩).2.rest).1⟩ ≠ [] := fun e => by
   rw [e] at h
   have h1 := h.1
   rw [← h.2] at h1
   revert h1
   decide
  exact (entryB_ne.1 hne).1
end Go.Proofs.YtaphpbiaoofmkaaGreatDoor.It
namespace Go.Proofs.YtaphpbiaoofmkaaGreatDoor.Pe
open Go Go.RowKit Co Sg Ac It
set_option maxRecDepth 100000
set_option maxHeartbeats 4000000
theorem iz_parse (s : By) (hs : s.length ≤ 1000000) : Iz (parseF s) := by
 have h0 := num_rest ⟨s, false⟩
 have h0' : (rNum ⟨s, false⟩).2.rest.length ≤ 1000000 := Nat.le_trans h0 hs
 unfold parseF
 generalize rNum ⟨s, false⟩ = q at *
 obtain ⟨k, x⟩ := q
 simp only at h0' ⊢
 split
 ·refine ⟨?_, Nat.zero_le _, Nat.zero_le _, dz0⟩
  show Sz (Ac.read x.rest).1
  cases hq : (Ac.read x.rest).2 with
  | true => exact szI_of (right_sm (Ac.read_right hq).1)
  | false => rw [Ac.read_wrong hq]; exact szI0
 split
 ·refine ⟨szI0, ?_, Nat.zero_le _, dz0⟩
  have := text_rest x
  show x.text.1.length ≤ _
  omega
 split
 ·refine ⟨szI0, Nat.zero_le _, ?_, dz0⟩
  have h1 := num_rest x
  have h2 := text_rest x.num.2
  show x.num.2.text.1.length ≤ _
  omega
 split
 ·refine ⟨szI0, Nat.zero_le _, Nat.zero_le _, ?_⟩
  have h1 := num_rest x
  have h2 := num_rest x.num.2
  have h3 := num_rest x.num.2.num.2
  have h4 := text_rest x.num.2.num.2.num.2
  have h5 := text_rest x.num.2.num.2.num.2.text.2
  have h6 := text_rest x.num.2.num.2.num.2.text.2.text.2
  have h7 := list_rest x.num.2.num.2.num.2.text.2.text.2.text.2
  refine ⟨?_, ?_, fun t ht => ?_⟩
  ·show x.num.2.num.2.num.2.text.1.length ≤ _; omega
  ·show x.num.2.num.2.num.2.text.2.text.2.text.2.list.1.length ≤ _; omega
  ·have := h7.2.1 t ht; omega
 ·exact ⟨szI0, Nat.zero_le _, Nat.zero_le _, dz0⟩
theorem fparse_c (s : By) (hs : s.length ≤ 1000000) : AC Tryz.prog 130 [.st s] [] (itemV (parseF s)) [] := by
 refine AC.enter [13] [] Tryz.func130 rfl (by decide) (by decide) (Nat.le_of_ble_eq_true rfl) (by kernel_rfl) ?_; simp only [eraseC, eraseO, List.map_cons, List.map_nil, List.map_toArray, List.getElem?_toArray, List.getElem?_cons_zero, List.getElem?_cons_succ, Option.bind_some, Option.bind_none, List.append_eq, List.cons_append, List.nil_append]
 obtain ⟨k, x0, e0, b0, d0, k0⟩ := fnum_x ⟨s, false⟩ hs
 have hsuf := num_suffix ⟨s, false⟩
 have hx0 : (R.num ⟨s, false⟩).2 = x0 := congrArg Prod.snd e0
 rw [hx0] at hsuf
 have hle : x0.rest.length ≤ s.length := by
  have := num_rest ⟨s, false⟩
  rw [hx0] at this
  exact this
 refine run ?_
 refine call_mk (AC.newAt (fopen_c s) _) ?_
 refine run ?_
 refine c1 1 k0 ?_
 by_cases h0 : k = 0
 ·subst h0
  have hp : parseF s = { item0 with act := (Ac.read x0.rest).1 } := by
   unfold parseF
   rw [e0]
   exact if_pos rfl
  have kr := fread12_c x0.rest b0
  have hsub : (s.length : Int) - (x0.rest.length : Int) = ((s.length - x0.rest.length : Nat) : Int) := by omega
  have hdr : s.drop (s.length - x0.rest.length) = x0.rest := hsuf.symm
  rw [hp]
  generalize Ac.read x0.rest = q at *
  obtain ⟨a, ok⟩ := q
  simp only at kr ⊢
  refine run ?_
  refine c1 1 (fleft_c x0) ?_
  refine runf (an @hsub @hdr) ?_
  refine cp kr ?_
  refine run ?_
  exact er0w
 by_cases h1 : k = 1
 ·subst h1
  obtain ⟨actor, x1, e1, b1, d1, w1, k1⟩ := ftext_x x0 b0
  obtain ⟨base, x2, e2, b2, d2, k2⟩ := fnum_x x1 b1
  obtain ⟨prev, x3, e3, b3, d3, w3, k3⟩ := ftext_x x2 b2
  obtain ⟨gen, x4, e4, b4, d4, k4⟩ := fnum_x x3 b3
  obtain ⟨home, x5, e5, b5, d5, k5⟩ := fnum_x x4 b4
  obtain ⟨pub, x6, e6, b6, d6, k6⟩ := fnum_x x5 b5
  obtain ⟨time, x7, e7, b7, d7, k7⟩ := fnum_x x6 b6
  obtain ⟨se, x8, e8, b8, d8, k8⟩ := fnum_x x7 b7
  obtain ⟨ss, x9, e9, b9, d9, k9⟩ := fnum_x x8 b8
  have hp : parseF s = { item0 with kind := 1, claim := ⟨actor, base, prev, gen, home, pub, time, ⟨se, ss⟩⟩ } := by
   unfold parseF
   rw [e0]
   simp only
   rw [if_neg (by omega)]; rw [if_pos (by trivial)]
   unfold rClaim rSig
   simp only [e1, e2, e3, e4, e5, e6, e7, e8, e9]
  rw [hp]
  clear hp e1 e2 e3 e4 e5 e6 e7 e8 e9 b1 b2 b3 b4 b5 b6 b7 b8 b9
  refine run ?_
  refine c1 1 k1 ?_
  refine run ?_
  refine c1 1 k2 ?_
  refine run ?_
  refine c1 1 k3 ?_
  refine run ?_
  refine c1 1 k4 ?_
  refine run ?_
  refine c1 1 k5 ?_
  refine run ?_
  refine c1 1 k6 ?_
  refine run ?_
  refine c1 1 k7 ?_
  refine run ?_
  refine c1 1 k8 ?_
  refine run ?_
  refine c1 1 k9 ?_
  refine run ?_
  exact er0w
 by_cases h2 : k = 2
 ·subst h2
  obtain ⟨server, x1, e1, b1, d1, k1⟩ := fnum_x x0 b0
  obtain ⟨actor, x2, e2, b2, d2, w2, k2⟩ := ftext_x x1 b1
  obtain ⟨gen, x3, e3, b3, d3, k3⟩ := fnum_x x2 b2
  obtain ⟨claim, x4, e4, b4, d4, w4, k4⟩ := ftext_x x3 b3
  obtain ⟨time, x5, e5, b5, d5, k5⟩ := fnum_x x4 b4
  obtain ⟨se, x6, e6, b6, d6, k6⟩ := fnum_x x5 b5
  obtain ⟨ss, x7, e7, b7, d7, k7⟩ := fnum_x x6 b6
  have hp : parseF s = { item0 with kind := 2, ballot := ⟨server, actor, gen, claim, time, ⟨se, ss⟩⟩ } := by
   unfold parseF
   rw [e0]
   simp only
   rw [if_neg (by omega)]; rw [if_neg (by omega)]; rw [if_pos (by trivial)]
   unfold rBallot rSig
   simp only [e1, e2, e3, e4, e5, e6, e7]
  rw [hp]
  clear hp e1 e2 e3 e4 e5 e6 e7 b1 b2 b3 b4 b5 b6 b7
  refine run ?_
  refine c1 1 k1 ?_
  refine run ?_
  refine c1 1 k2 ?_
  refine run ?_
  refine c1 1 k3 ?_
  refine run ?_
  refine c1 1 k4 ?_
  refine run ?_
  refine c1 1 k5 ?_
  refine run ?_
  refine c1 1 k6 ?_
  refine run ?_
  refine c1 1 k7 ?_
  refine run ?_
  exact er0w
 by_cases h3 : k = 3
 ·subst h3
  obtain ⟨server, x1, e1, b1, d1, k1⟩ := fnum_x x0 b0
  obtain ⟨number, x2, e2, b2, d2, k2⟩ := fnum_x x1 b1
  obtain ⟨kind, x3, e3, b3, d3, k3⟩ := fnum_x x2 b2
  obtain ⟨actor, x4, e4, b4, d4, w4, k4⟩ := ftext_x x3 b3
  obtain ⟨object, x5, e5, b5, d5, w5, k5⟩ := ftext_x x4 b4
  obtain ⟨text, x6, e6, b6, d6, w6, k6⟩ := ftext_x x5 b5
  obtain ⟨to, x7, e7, b7, d7, d7', k7⟩ := flist_x x6 b6 w6
  obtain ⟨n, x8, e8, b8, d8, k8⟩ := fnum_x x7 b7
  obtain ⟨frm, x9, e9, b9, d9, k9⟩ := fnum_x x8 b8
  obtain ⟨til, x10, e10, b10, d10, k10⟩ := fnum_x x9 b9
  obtain ⟨se, x11, e11, b11, d11, k11⟩ := fnum_x x10 b10
  obtain ⟨ss, x12, e12, b12, d12, k12⟩ := fnum_x x11 b11
  have hp : parseF s = { item0 with kind := 3, decision := ⟨server, number, kind, actor, object, text, to, n, frm, til, ⟨se, ss⟩⟩ } := by
   unfold parseF
   rw [e0]
   simp only
   rw [if_neg (by omega)]; rw [if_neg (by omega)]; rw [if_neg (by omega)]; rw [if_pos (by trivial)]
   unfold rDecision rSig
   simp only [e1, e2, e3, e4, e5, e6, e7, e8, e9, e10, e11, e12]
  rw [hp]
  clear hp e1 e2 e3 e4 e5 e6 e7 e8 e9 e10 e11 e12 b1 b2 b3 b4 b5 b6 b7 b8 b9 b10 b11 b12
  refine run ?_
  refine c1 1 k1 ?_
  refine run ?_
  refine c1 1 k2 ?_
  refine run ?_
  refine c1 1 k3 ?_
  refine run ?_
  refine c1 1 k4 ?_
  refine run ?_
  refine c1 1 k5 ?_
  refine run ?_
  refine c1 1 k6 ?_
  refine run ?_
  refine c1 1 k7 ?_
  refine run ?_
  refine c1 1 k8 ?_
  refine run ?_
  refine c1 1 k9 ?_
  refine run ?_
  refine c1 1 k10 ?_
  refine run ?_
  refine c1 1 k11 ?_
  refine run ?_
  refine c1 1 k12 ?_
  refine run ?_
  exact er0w
 have hp : parseF s = { item0 with kind := k } := by
  unfold parseF
  rw [e0]
  simp only
  rw [if_neg h0, if_neg h1, if_neg h2, if_neg h3]
 have q0 : (k == 0) = false := beqF h0
 have q1 : (k == 1) = false := beqF h1
 have q2 : (k == 2) = false := beqF h2
 have q3 : (k == 3) = false := beqF h3
 rw [hp]
 refine runf (an @q0 (an @q1 (an @q2 @q3))) ?_
 exact er0w
theorem fread13_c (s : By) (hs : s.length ≤ 1000000) : AC Tryz.prog 31 [.st s] [] (.tup [itemV (It.read s).1, .bo (It.read s).2]) [] := by
 refine AC.enter [130, 39] [] Tryz.func31 rfl (by decide) (by decide) (Nat.le_of_ble_eq_true rfl) (by kernel_rfl) ?_; simp only [eraseC, eraseO, List.map_cons, List.map_nil, List.map_toArray, List.getElem?_toArray, List.getElem?_cons_zero, List.getElem?_cons_succ, Option.bind_some, Option.bind_none, List.append_eq, List.cons_append, List.nil_append]
 have kp := fparse_c s hs
 have kb := fbytes13_c (parseF s) (iz_parse s hs)
 have hread := read13_ref s
 generalize parseF s = it at *
 refine run ?_
 refine cp kp ?_
 by_cases hse : s = []
 ·rw [if_neg (fun h => h.1 hse)] at hread
  have hsn : (s == []) = true := by rw [hse]; rfl
  rw [← hread]
  refine runf @hsn ?_
  exact er0w
 have hsn : (s == []) = false := nilI s [] hse
 refine runf @hsn ?_
 refine cp kb ?_
 generalize It.bytes it = bs at *
 by_cases hbs : bs = s
 ·rw [if_pos ⟨hse, hbs⟩] at hread
  rw [← hread]
  have hne : (bs == s) = true := by rw [hbs]; exact beq_self_eq_true _
  refine runf @hne ?_
  exact er0w
 ·rw [if_neg (fun h => hbs h.2)] at hread
  rw [← hread]
  have hne := nilI bs s hbs
  refine runf @hne ?_
  exact er0w
theorem freadEntry_c (s : By) (hs : s.length ≤ 1000000) : AC Tryz.prog 33 [.st s] [] (.tup [entryV (readEntry s).1, .bo (readEntry s).2]) [] := by
 refine AC.enter [31, 46] [] Tryz.func33 rfl (by decide) (by decide) (Nat.le_of_ble_eq_true rfl) (by kernel_rfl) ?_; simp only [eraseC, eraseO, List.map_cons, List.map_nil, List.map_toArray, List.getElem?_toArray, List.getElem?_cons_zero, List.getElem?_cons_succ, Option.bind_some, Option.bind_none, List.append_eq, List.cons_append, List.nil_append]
 obtain ⟨k, x0, e0, b0, d0, k0⟩ := fnum_x ⟨s, false⟩ hs
 have hsuf := num_suffix ⟨s, false⟩
 have hx0 : (R.num ⟨s, false⟩).2 = x0 := congrArg Prod.snd e0
 rw [hx0] at hsuf
 have hle : x0.rest.length ≤ s.length := by
  have := num_rest ⟨s, false⟩
  rw [hx0] at this
  exact this
 have hread := readEntry_ref s
 rw [e0] at hread
 simp only at hread
 have kr := fread13_c x0.rest b0
 have hz : Iz (It.read x0.rest).1 := by
  cases hq : (It.read x0.rest).2 with
  | true =>
   have h1 := read13_ref x0.rest
   have h2 := iz_parse x0.rest b0
   split at h1
   ·rw [← h1]; exact h2
   ·rw [← h1] at hq; cases hq
  | false => rw [It.read_wrong hq]; exact ⟨szI0, Nat.zero_le _, Nat.zero_le _, dz0⟩
 have hsub : (s.length : Int) - (x0.rest.length : Int) = ((s.length - x0.rest.length : Nat) : Int) := by omega
 have hdr : s.drop (s.length - x0.rest.length) = x0.rest := hsuf.symm
 generalize It.read x0.rest = q at *
 obtain ⟨it, ok⟩ := q
 simp only at kr hz hread
 have kb := fentryBytes_c ⟨k, it⟩ hz
 refine run ?_
 refine call_mk (AC.newAt (fopen_c s) _) ?_
 refine run ?_
 refine c1 1 k0 ?_
 refine run ?_
 refine c1 1 (fleft_c x0) ?_
 refine runf (an @hsub @hdr) ?_
 refine cp kr ?_
 cases ok with
 | false =>
  rw [if_neg (fun h => by cases h.1)] at hread
  rw [← hread]
  refine run ?_
  exact er0w
 | true =>
  refine run ?_
  refine cp kb ?_
  generalize entryB _ = bs at *
  by_cases hbs : bs = s
  ·rw [if_pos ⟨rfl, hbs⟩] at hread
   rw [← hread]
   have hne : (bs == s) = true := by rw [hbs]; exact beq_self_eq_true _
   refine runf @hne ?_
   exact er0w
  ·rw [if_neg (fun h => hbs h.2)] at hread
   rw [← hread]
   have hne := nilI bs s hbs
   refine runf @hne ?_
   exact er0w
theorem fdigest13_c (i : It.Item) (h : Iz i) : AC Tryz.prog 41 [itemV i] [] (.st (It.digest i)) [] := by
 refine AC.enter [39, 146] [] Tryz.func41 rfl (by decide) (by decide) (Nat.le_of_ble_eq_true rfl) (by kernel_rfl) ?_; simp only [eraseC, eraseO, List.map_cons, List.map_nil, List.map_toArray, List.getElem?_toArray, List.getElem?_cons_zero, List.getElem?_cons_succ, Option.bind_some, Option.bind_none, List.append_eq, List.cons_append, List.nil_append]
 have kb := fbytes13_c i h
 have hl := bytesIt_len i
 unfold It.digest
 generalize It.bytes i = bs at *
 refine run ?_
 refine cp kb ?_
 by_cases hb : bs = []
 ·subst hb
  rw [if_pos rfl]
  refine run ?_
  exact er0
 ·have hq : (bs == []) = false := nilI bs [] hb
  rw [if_neg hb]
  refine runf @hq ?_
  refine cp (rsha_c bs (by omega)) ?_
  refine run ?_
  exact er0
theorem fofAct_c (a : Ac.Act) : AC Tryz.prog 58 [actV a] [] (itemV (ofAct a)) [] := by
 refine AC.enter [] [] Tryz.func58 rfl (by decide) (by decide) (Nat.le_of_ble_eq_true rfl) (by kernel_rfl) ?_; simp only [eraseC, eraseO, List.map_cons, List.map_nil, List.map_toArray, List.getElem?_toArray, List.getElem?_cons_zero, List.getElem?_cons_succ, Option.bind_some, Option.bind_none, List.append_eq, List.cons_append, List.nil_append]
 refine run ?_
 exact er0w
theorem fofDecision_c (c : It.Decision) : AC Tryz.prog 55 [decisionV c] [] (itemV (ofDecision c)) [] := by
 refine AC.enter [] [] Tryz.func55 rfl (by decide) (by decide) (Nat.le_of_ble_eq_true rfl) (by kernel_rfl) ?_; simp only [eraseC, eraseO, List.map_cons, List.map_nil, List.map_toArray, List.getElem?_toArray, List.getElem?_cons_zero, List.getElem?_cons_succ, Option.bind_some, Option.bind_none, List.append_eq, List.cons_append, List.nil_append]
 refine run ?_
 exact er0w
theorem fsignClaim_c (k : Key) (c : It.Claim) (h : Sh (ofClaim c)) (hk : -9223372036854775808 ≤ k.secret ∧ k.secret ≤ 9223372036854775807) : AC Tryz.prog 50 [keyV k, claimV c] [] (claimV (signClaim k c)) [] := by
 refine AC.enter2 [152, 105] [] Tryz.func50 rfl (by decide) (by decide) (Nat.le_of_ble_eq_true rfl) (by kernel_rfl) ?_; simp only [eraseC, eraseO, List.map_cons, List.map_nil, List.map_toArray, List.getElem?_toArray, List.getElem?_cons_zero, List.getElem?_cons_succ, Option.bind_some, Option.bind_none, List.append_eq, List.cons_append, List.nil_append]
 have k1 := fmclaim_c c h
 have k2 := rsign_c k (message (ofClaim c)) (message_len h) hk
 have e : signClaim k c = { c with sig := sign k (message (ofClaim c)) } := rfl
 rw [e]
 generalize message (ofClaim c) = ms at *
 generalize sign k ms = sg at *
 refine run ?_
 refine cp k1 ?_
 refine run ?_
 refine cp k2 ?_
 refine run ?_
 exact er0
theorem fsignDecision_c (k : Key) (c : It.Decision) (h : Sh (ofDecision c)) (hk : -9223372036854775808 ≤ k.secret ∧ k.secret ≤ 9223372036854775807) (ht : c.to.length ≤ 1000000) (hts : ∀ s ∈ c.to, s.length ≤ 1000000) : AC Tryz.prog 56 [keyV k, decisionV c] [] (decisionV (signDecision k c)) [] := by
 refine AC.enter2 [150, 105] [] Tryz.func56 rfl (by decide) (by decide) (Nat.le_of_ble_eq_true rfl) (by kernel_rfl) ?_; simp only [eraseC, eraseO, List.map_cons, List.map_nil, List.map_toArray, List.getElem?_toArray, List.getElem?_cons_zero, List.getElem?_cons_succ, Option.bind_some, Option.bind_none, List.append_eq, List.cons_append, List.nil_append]
 have k1 := fmdecision_c c h ⟨ht, hts⟩
 have k2 := rsign_c k (message (ofDecision c)) (message_len h) hk
 have e : signDecision k c = { c with sig := sign k (message (ofDecision c)) } := rfl
 have z1 : allSz 1 (c.to.map AV.st) = true := allSz_map 1 AV.st (fun _ => rfl) _
 rw [e]
 generalize message (ofDecision c) = ms at *
 generalize sign k ms = sg at *
 refine runf (an @z1 @ht) ?_
 refine cp k1 ?_
 refine run ?_
 refine cp k2 ?_
 refine run ?_
 exact er0w
theorem fclaimedP_c (p : Int) (c : It.Claim) (h : Sh (ofClaim c)) : AC Tryz.prog 48 [.it .i64 p, claimV c] [] (.bo (claimed p c)) [] := by
 refine AC.enter2 [152, 107] [] Tryz.func48 rfl (by decide) (by decide) (Nat.le_of_ble_eq_true rfl) (by kernel_rfl) ?_; simp only [eraseC, eraseO, List.map_cons, List.map_nil, List.map_toArray, List.getElem?_toArray, List.getElem?_cons_zero, List.getElem?_cons_succ, Option.bind_some, Option.bind_none, List.append_eq, List.cons_append, List.nil_append]
 have k1 := fmclaim_c c h
 have k2 := rverify_c p (message (ofClaim c)) c.sig (message_len h)
 have e : claimed p c = verify p (message (ofClaim c)) c.sig := rfl
 rw [e]
 generalize message (ofClaim c) = ms at *
 refine run ?_
 refine cp k1 ?_
 refine run ?_
 refine cp k2 ?_
 refine run ?_
 exact er0
end Go.Proofs.YtaphpbiaoofmkaaGreatDoor.Pe
