/- The walk of package fork on plain values: bytes; the small functions of the laws of layer 17; their example. -/
import Derived.Test.YthbpbkbjdfcnjaaGreatDoorFkA
import Derived.Test.YthbpbkbjdfcnjaaGreatDoorFkV0
import Derived.Test.YthbpbkbjdfcnjaaGreatDoorMkF
import Derived.Test.YthbpbkbjdfcnjaaGreatDoorTl
set_option linter.unusedSectionVars false
set_option linter.unusedVariables false
set_option linter.unusedSimpArgs false
namespace Go.Proofs.YthbpbkbjdfcnjaaGreatDoor.Pe
open Go Go.RowKit Co Sg Ac It Sl
set_option maxRecDepth 100000
set_option maxHeartbeats 4000000
theorem evidB_len (e : Evidence) : (evidB e).length ≤ 900000000 := by
 unfold evidB
 split
 ·rename_i h
  obtain ⟨h1, h2, h3, h4, h5⟩ := formedE_iff.1 h
  have a1 := text_le (headB e.old) (by have := headB_len e.old; omega)
  have a2 := text_le (headB e.new) (by have := headB_len e.new; omega)
  have a3 := text_len (s := e.root) (by omega)
  have a4 : (list e.link).length ≤ 100000000 := by
   have hn := num_len9 (n := e.link.length) (by omega)
   have hf := fl_len (l := e.link) (fun x hx => by rw [h5 x hx]; decide)
   have : e.link.length * 1000009 ≤ 64 * 1000009 := Nat.mul_le_mul_right _ h4
   unfold list
   rw [List.length_append]
   omega
  simp only [List.length_append]
  omega
 ·exact Nat.zero_le _
theorem fkbytes_c (e : Evidence) (hl : e.link.length ≤ 140737488355328) : AC Tryz.prog 27 [evV e] [] (.st (evidB e)) [] := by
 refine AC.enter2 [64, 66, 65, 67] [] Tryz.func27 rfl (by decide) (by decide) (Nat.le_of_ble_eq_true rfl) (by kernel_rfl) ?_; simp only [eraseC, eraseO, List.map_cons, List.map_nil, List.map_toArray, List.getElem?_toArray, List.getElem?_cons_zero, List.getElem?_cons_succ, Option.bind_some, Option.bind_none, List.append_eq, List.cons_append, List.nil_append]
 have kf := fkformed_c e hl
 have hlen := evidB_len e
 unfold evidB at hlen ⊢
 cases hf : formedE e with
 | false =>
  rw [hf] at kf
  rw [if_neg (by simp)]
  refine run ?_
  refine cp kf ?_
  refine run ?_
  exact er0
 | true =>
  rw [hf] at kf hlen
  rw [if_pos rfl] at hlen ⊢
  obtain ⟨h1, h2, h3, h4, h5⟩ := formedE_iff.1 hf
  have b1 := headB_len e.old
  have b2 := headB_len e.new
  have k1 := sheadBytes_c e.old
  have k2 := sheadBytes_c e.new
  have k3 := text_c (headB e.old) (by omega)
  have k4 := text_c (headB e.new) (by omega)
  have k5 := text_c e.root (by omega)
  have k6 := list_c e.link (by omega) (fun x hx => by rw [h5 x hx]; decide)
  simp only [List.length_append] at hlen
  generalize text (headB e.old) = t1 at *
  generalize text (headB e.new) = t2 at *
  generalize text e.root = t3 at *
  generalize list e.link = t4 at *
  refine run ?_
  refine cp kf ?_
  refine run ?_
  refine cp k1 ?_
  refine run ?_
  refine cp k3 ?_
  refine run ?_
  refine cp k2 ?_
  refine run ?_
  refine cp k4 ?_
  refine run ?_
  refine cp k5 ?_
  refine run ?_
  refine cp k6 ?_
  refine run ?_
  exact er0
theorem fkread_c (s : By) (hs : s.length ≤ 1000000) : AC Tryz.prog 28 [.st s] [] (.tup [evV (readEv s).1, .bo (readEv s).2]) [] := by
 refine AC.enter2 [72, 64, 27] [] Tryz.func28 rfl (by decide) (by decide) (Nat.le_of_ble_eq_true rfl) (by kernel_rfl) ?_; simp only [eraseC, eraseO, List.map_cons, List.map_nil, List.map_toArray, List.getElem?_toArray, List.getElem?_cons_zero, List.getElem?_cons_succ, Option.bind_some, Option.bind_none, List.append_eq, List.cons_append, List.nil_append]
 obtain ⟨o, x0, e0, b0, d0, k0⟩ := rtext_s ⟨s, false⟩ hs
 obtain ⟨n, x1, e1, b1, d1, k1⟩ := rtext_s x0 b0
 obtain ⟨r, x2, e2, b2, d2, k2⟩ := rtext_s x1 b1
 obtain ⟨l, x3, e3, b3, d3, d3', k3⟩ := rlist_s x2 b2
 have kd := done_c x3
 change AC _ _ _ _ (.bo x3.done) _ at kd
 have kh1 := readHead_c o d0
 have kh2 := readHead_c n d1
 have hread : readEv s = if x3.done = true ∧ (readHead o).2 = true ∧ (readHead n).2 = true ∧ formedE ⟨(readHead o).1, (readHead n).1, r, l⟩ = true ∧ evidB ⟨(readHead o).1, (readHead n).1, r, l⟩ = s then (⟨(readHead o).1, (readHead n).1, r, l⟩, true) else (evid0, false) := by
  unfold readEv
  simp only [e0, e1, e2, e3]
 generalize readHead o = ro at *
 generalize readHead n = rn at *
 obtain ⟨ho, oo⟩ := ro
 obtain ⟨hn, on⟩ := rn
 simp only at hread kh1 kh2
 have kf := fkformed_c ⟨ho, hn, r, l⟩ (by show l.length ≤ _; omega)
 have kb := fkbytes_c ⟨ho, hn, r, l⟩ (by show l.length ≤ _; omega)
 generalize formedE ⟨ho, hn, r, l⟩ = fo at *
 generalize evidB ⟨ho, hn, r, l⟩ = bs at *
 generalize x3.done = dn at *
 refine run ?_
 refine call_mk (AC.newAt (open_c s) _) ?_
 refine run ?_
 refine c1 1 k0 ?_
 refine run ?_
 refine c1 1 k1 ?_
 refine run ?_
 refine c1 1 k2 ?_
 refine run ?_
 refine c1 1 k3 ?_
 refine run ?_
 refine c1 1 kd ?_
 cases dn with
 | false =>
  rw [if_neg (fun h => by cases h.1)] at hread
  rw [hread]
  refine run ?_
  exact er0w
 | true =>
 refine run ?_
 refine cp kh1 ?_
 cases oo with
 | false =>
  rw [if_neg (fun h => by cases h.2.1)] at hread
  rw [hread]
  refine run ?_
  exact er0w
 | true =>
 refine run ?_
 refine cp kh2 ?_
 cases on with
 | false =>
  rw [if_neg (fun h => by cases h.2.2.1)] at hread
  rw [hread]
  refine run ?_
  exact er0w
 | true =>
 refine run ?_
 refine cp kf ?_
 cases fo with
 | false =>
  rw [if_neg (fun h => by cases h.2.2.2.1)] at hread
  rw [hread]
  refine run ?_
  exact er0w
 | true =>
 refine run ?_
 refine cp kb ?_
 by_cases hb : bs = s
 ·subst hb
  rw [if_pos ⟨rfl, rfl, rfl, rfl, rfl⟩] at hread
  rw [hread]
  refine run ?_
  exact er0w
 ·rw [if_neg (fun h => hb h.2.2.2.2)] at hread
  rw [hread]
  have hne := nilI bs s hb
  refine runf @hne ?_
  exact er0w
theorem fsameTexts_c (a b : List By) (ha : a.length ≤ 1000000) (hb : b.length ≤ 1000000) : AC Tryz.prog 81 [sls a, sls b] [] (.bo (decide (a = b))) [] := by
 refine AC.enter2 [] [] Tryz.func81 rfl (by decide) (by decide) (Nat.le_of_ble_eq_true rfl) (by kernel_rfl) ?_; simp only [eraseC, eraseO, List.map_cons, List.map_nil, List.map_toArray, List.getElem?_toArray, List.getElem?_cons_zero, List.getElem?_cons_succ, Option.bind_some, Option.bind_none, List.append_eq, List.cons_append, List.nil_append]
 by_cases h0 : a.length = b.length
 rotate_left
 ·rw [decide_eq_false (fun h => h0 (by rw [h]))]
  refine run ?_
  exact er0
 refine run ?_
 refine loop_mk (fun m e S => S = [] ∧ e 0 = sls a ∧ e 1 = sls b ∧ ∃ k, e 5 = .it .i64 ((k : Nat) : Int) ∧ k ≤ a.length ∧ a.take k = b.take k ∧ m = a.length - k) a.length ⟨rfl, (by first | rfl | (simp only [↓upd_apply, ↓put_some, ↓reduceIte, Nat.reduceEqDiff, ↓argEnv_zero, ↓argEnv_succ, *]; done)), (by first | rfl | (simp only [↓upd_apply, ↓put_some, ↓reduceIte, Nat.reduceEqDiff, ↓argEnv_zero, ↓argEnv_succ, *]; done)), 0, (by first | rfl | (simp only [↓upd_apply, ↓put_some, ↓reduceIte, Nat.reduceEqDiff, ↓argEnv_zero, ↓argEnv_succ, *]; done)), by omega, rfl, rfl⟩ ?_
 rintro m e S ⟨rfl, h1, h2, k, h3, hk, hab, rfl⟩
 by_cases hlt : k < a.length
 ·have ga : a[k]? = some a[k] := List.getElem?_eq_getElem hlt
  have gb : b[k]? = some (b[k]'(by omega)) := List.getElem?_eq_getElem (by omega)
  by_cases he : a[k] = b[k]'(by omega)
  ·have he' : (a[k] == b[k]'(by omega)) = true := by simp [he]
   refine runf (an @h1 (an @h2 (an @h3 (an @ga (an @gb @he'))))) ?_
   exact round_mk (a.length - (k + 1)) (by omega) ⟨rfl, (by first | rfl | (simp only [↓upd_apply, ↓put_some, ↓reduceIte, Nat.reduceEqDiff, ↓argEnv_zero, ↓argEnv_succ, *]; done)), (by first | rfl | (simp only [↓upd_apply, ↓put_some, ↓reduceIte, Nat.reduceEqDiff, ↓argEnv_zero, ↓argEnv_succ, *]; done)), k + 1, (by first | rfl | (simp only [↓upd_apply, ↓put_some, ↓reduceIte, Nat.reduceEqDiff, ↓argEnv_zero, ↓argEnv_succ, *]; done)), by omega, by rw [List.take_succ_eq_append_getElem hlt, List.take_succ_eq_append_getElem (by omega : k < b.length), hab, he], rfl⟩
  ·have he' : (a[k] == b[k]'(by omega)) = false := by simp [he]
   have : decide (a = b) = false := by rw [decide_eq_false_iff_not]; intro h; subst h; exact he rfl
   rw [this]
   refine runf (an @h1 (an @h2 (an @h3 (an @ga (an @gb @he'))))) ?_
   exact er0
 ·have hk' : k = a.length := by omega
  have : decide (a = b) = true := by
   rw [decide_eq_true_iff, ← List.take_length (l := a), ← List.take_length (l := b), ← h0, ← hk']; exact hab
  rw [this]
  refine runf (an @h1 (an @h2 @h3)) ?_
  exact er0
theorem fsame17_c (a b : Evidence) (ha : a.link.length ≤ 1000000) (hb : b.link.length ≤ 1000000) : AC Tryz.prog 31 [evV a, evV b] [] (.bo (decide (a = b))) [] := by
 refine AC.enter2 [81] [] Tryz.func31 rfl (by decide) (by decide) (Nat.le_of_ble_eq_true rfl) (by kernel_rfl) ?_; simp only [eraseC, eraseO, List.map_cons, List.map_nil, List.map_toArray, List.getElem?_toArray, List.getElem?_cons_zero, List.getElem?_cons_succ, Option.bind_some, Option.bind_none, List.append_eq, List.cons_append, List.nil_append]
 obtain ⟨q, hq⟩ : ∃ q, decide (a = b) = q := ⟨_, rfl⟩
 rw [hq]
 have w1 := headE_eqb a.old b.old
 have w2 := headE_eqb a.new b.new
 have k := fsameTexts_c a.link b.link ha hb
 by_cases h1 : a.old = b.old
 rotate_left
 ·obtain rfl : q = false := by rw [← hq]; exact decide_eq_false (fun e => h1 (by rw [e]))
  rw [decide_eq_false h1] at w1
  refine runf @w1 ?_
  exact er0
 rw [decide_eq_true h1] at w1
 by_cases h2 : a.new = b.new
 rotate_left
 ·obtain rfl : q = false := by rw [← hq]; exact decide_eq_false (fun e => h2 (by rw [e]))
  rw [decide_eq_false h2] at w2
  refine runf (an @w1 @w2) ?_
  exact er0
 rw [decide_eq_true h2] at w2
 by_cases h3 : a.root = b.root
 rotate_left
 ·obtain rfl : q = false := by rw [← hq]; exact decide_eq_false (fun e => h3 (by rw [e]))
  have w3 := nilI _ _ h3
  refine runf (an @w1 (an @w2 @w3)) ?_
  exact er0
 have w3 : (a.root == b.root) = true := by rw [h3]; exact beq_self_eq_true _
 have e5 : decide (a.link = b.link) = q := by
  rw [← hq, Bool.eq_iff_iff, decide_eq_true_eq, decide_eq_true_eq]
  constructor
  ·intro h5
   cases a; cases b
   simp only at *
   simp only [*]
  ·intro e; rw [e]
 rw [e5] at k
 refine runf (an @w1 (an @w2 @w3)) ?_
 refine cp k ?_
 refine run ?_
 exact er0
def light17 (l : List It.Entry) : Bool := decide (l.length ≤ 30) && l.all fun e => decide (e.item.act.to.length ≤ 100) && decide (e.item.act.wraps.length ≤ 100) && decide (e.item.decision.to.length ≤ 100)
theorem light17_c (l : List It.Entry) (hl : l.length ≤ 140737488351232) : AC Tryz.prog 32 [entriesV l] [] (.bo (light17 l)) [] := by
 refine AC.enter2 [] [] Tryz.func32 rfl (by decide) (by decide) (Nat.le_of_ble_eq_true rfl) (by kernel_rfl) ?_; simp only [eraseC, eraseO, List.map_cons, List.map_nil, List.map_toArray, List.getElem?_toArray, List.getElem?_cons_zero, List.getElem?_cons_succ, Option.bind_some, Option.bind_none, List.append_eq, List.cons_append, List.nil_append]
 unfold light17
 have hsz := entries_sz l
 by_cases c1 : l.length ≤ 30
 rotate_left
 ·have c1' : (30 : Int) < (l.length : Int) := by omega
  rw [decide_eq_false c1]
  refine runf @c1' ?_
  exact er0
 have c1' : ¬ (30 : Int) < (l.length : Int) := by omega
 rw [decide_eq_true c1]
 obtain ⟨sh, hsh⟩ : ∃ sh : It.Entry → Bool, sh = fun e => decide (e.item.act.to.length ≤ 100) && decide (e.item.act.wraps.length ≤ 100) && decide (e.item.decision.to.length ≤ 100) := ⟨_, rfl⟩
 rw [← hsh]
 refine runf @c1' ?_
 refine loop_mk (fun m e S => e 0 = entriesV l ∧ ∃ (k : Nat) (T : Store), e 3 = .it .i64 (k : Int) ∧ S = T ∧ k ≤ l.length ∧ (l.take k).all sh = true ∧ m = l.length - k) l.length
  ⟨(by first | rfl | (simp only [↓upd_apply, ↓put_some, ↓reduceIte, Nat.reduceEqDiff, ↓argEnv_zero, ↓argEnv_succ, *]; done)), 0, [], (by first | rfl | (simp only [↓upd_apply, ↓put_some, ↓reduceIte, Nat.reduceEqDiff, ↓argEnv_zero, ↓argEnv_succ, *]; done)), rfl, by omega, rfl, rfl⟩ ?_
 rintro m e S ⟨s0, k, T, s3, rfl, hk, hall, rfl⟩
 by_cases hlt : k < l.length
 rotate_left
 ·obtain rfl : k = l.length := by omega
  rw [List.take_length] at hall
  rw [hall]
  have hx : ¬ ((l.length : Nat) : Int) < (l.length : Int) := by omega
  refine runf (an @s0 (an @s3 @hx)) ?_
  exact er0
 have hg : l[k]? = some l[k] := List.getElem?_eq_getElem hlt
 have hstep : l.take (k + 1) = l.take k ++ [l[k]] := List.take_succ_eq_append_getElem hlt
 have hbad : sh l[k] = false → l.all sh = false := fun h => List.all_eq_false.2 ⟨l[k], List.getElem_mem hlt, by simp [h]⟩
 generalize l[k] = x at *
 have hun : sh x = (decide (x.item.act.to.length ≤ 100) && decide (x.item.act.wraps.length ≤ 100) && decide (x.item.decision.to.length ≤ 100)) := by rw [hsh]
 by_cases d1 : x.item.act.to.length ≤ 100
 rotate_left
 ·have d1' : (100 : Int) < (x.item.act.to.length : Int) := by omega
  rw [hbad (by rw [hun, decide_eq_false d1]; simp)]
  refine runf (an @s0 (an @s3 (an @hg (an @hsz (an @tl0 (an @tl0s @d1')))))) ?_
  exact er0
 have d1' : ¬ (100 : Int) < (x.item.act.to.length : Int) := by omega
 by_cases d2 : x.item.act.wraps.length ≤ 100
 rotate_left
 ·have d2' : (100 : Int) < (x.item.act.wraps.length : Int) := by omega
  rw [hbad (by rw [hun, decide_eq_false d2]; simp)]
  refine runf (an @s0 (an @s3 (an @hg (an @hsz (an @tl0 (an @tl0s (an @d1' @d2'))))))) ?_
  exact er0
 have d2' : ¬ (100 : Int) < (x.item.act.wraps.length : Int) := by omega
 by_cases d3 : x.item.decision.to.length ≤ 100
 rotate_left
 ·have d3' : (100 : Int) < (x.item.decision.to.length : Int) := by omega
  rw [hbad (by rw [hun, decide_eq_false d3]; simp)]
  refine runf (an @s0 (an @s3 (an @hg (an @hsz (an @tl0 (an @tl0s (an @d1' (an @d2' @d3')))))))) ?_
  exact er0
 have d3' : ¬ (100 : Int) < (x.item.decision.to.length : Int) := by omega
 have hs : sh x = true := by rw [hun, decide_eq_true d1, decide_eq_true d2, decide_eq_true d3]; rfl
 refine runf (an @s0 (an @s3 (an @hg (an @hsz (an @tl0 (an @tl0s (an @d1' (an @d2' @d3')))))))) ?_
 exact round_mk (l.length - (k + 1)) (by omega) ⟨(by first | rfl | (simp only [↓upd_apply, ↓put_some, ↓reduceIte, Nat.reduceEqDiff, ↓argEnv_zero, ↓argEnv_succ, *]; done)), k + 1, _, (by first | rfl | (simp only [↓upd_apply, ↓put_some, ↓reduceIte, Nat.reduceEqDiff, ↓argEnv_zero, ↓argEnv_succ, *]; done)), rfl, by omega, by rw [hstep, List.all_append, hall]; simp [hs], rfl⟩
theorem fkentry_c (n : Int) : AC Tryz.prog 63 [.it .i64 n] [] (entryV (fkEntry n)) [] := by
 refine AC.enter2 [117] [] Tryz.func63 rfl (by decide) (by decide) (Nat.le_of_ble_eq_true rfl) (by kernel_rfl) ?_; simp only [eraseC, eraseO, List.map_cons, List.map_nil, List.map_toArray, List.getElem?_toArray, List.getElem?_cons_zero, List.getElem?_cons_succ, Option.bind_some, Option.bind_none, List.append_eq, List.cons_append, List.nil_append]
 have k := rleaf_c [] (by decide)
 have e : fkEntry n = ⟨n, ⟨1, act0, ⟨fkActor, 1, Mk.leaf [], 0, 0, 37, n, sig0⟩, ballot0, decision0⟩⟩ := rfl
 rw [e]
 generalize Mk.leaf [] = lf at *
 refine run ?_
 refine cp k ?_
 refine run ?_
 exact er0w
theorem fkIz (n : Int) : Iz (fkEntry n).item := ⟨szI0, by show fkActor.length ≤ _; decide, Nat.zero_le _, dz0⟩
theorem fkA_ok : EOk fkA := ⟨by decide, fun e he => by
 rcases List.mem_cons.1 he with rfl | he
 ·exact fkIz 1
 rcases List.mem_cons.1 he with rfl | he
 ·exact fkIz 2
 ·cases he⟩
theorem fkB_ok : EOk fkB := ⟨by decide, fun e he => by
 rcases List.mem_cons.1 he with rfl | he
 ·exact fkIz 1
 rcases List.mem_cons.1 he with rfl | he
 ·exact fkIz 3
 rcases List.mem_cons.1 he with rfl | he
 ·exact fkIz 4
 ·cases he⟩
theorem fkE_len : (evidB fkE).length ≤ 1000000 ∧ fkE.link.length ≤ 64 := by
 obtain ⟨h1, h2, h3, h4, h5⟩ := formedE_iff.1 fk_formed
 refine ⟨?_, h4⟩
 have hh : ∀ h : Head, rightH h = true → (text (headB h)).length ≤ 200 := fun h hr => by
  obtain ⟨r1, r2, r3, r4, r5⟩ := rightH_iff.1 hr
  simp only [sigR, Bool.and_eq_true, wi_iff] at r5
  have n1 := numI_le h.server (by omega)
  have n2 := numI_le h.size (by omega)
  have n3 := numI_le h.time (by omega)
  have n4 := numI_le h.sig.e (by omega)
  have n5 := numI_le h.sig.s (by omega)
  have t1 := textT (s := h.root) (n := 32) (by omega) (by omega)
  have tw : (text wHead).length = 5 := rfl
  have hb : (headB h).length ≤ 91 := by
   unfold headB coreH
   rw [if_pos hr]
   simp only [List.length_append]
   omega
  have := textT hb (by omega)
  omega
 have a1 := hh _ h1
 have a2 := hh _ h2
 have a3 := textT (s := fkE.root) (n := 32) (by omega) (by omega)
 have a4 : (list fkE.link).length ≤ 900000 := by
  have hn := num_len9 (n := fkE.link.length) (by omega)
  have hf : (fkE.link.map text).flatten.length ≤ fkE.link.length * 41 := by
   have hall : ∀ l : List By, (∀ x ∈ l, x.length = 32) → (l.map text).flatten.length ≤ l.length * 41 := by
    intro l
    induction l with
    | nil => intro _; simp
    | cons x l ih =>
     intro hx
     have i1 := ih fun y hy => hx y (by simp [hy])
     have i2 := textT (s := x) (n := 32) (by rw [hx x (by simp)]; omega) (by omega)
     rw [List.map_cons, List.flatten_cons, List.length_append, List.length_cons, Nat.succ_mul]
     omega
   exact hall _ h5
  have : fkE.link.length * 41 ≤ 64 * 41 := Nat.mul_le_mul_right _ h4
  unfold list
  rw [List.length_append]
  omega
 unfold evidB
 rw [if_pos fk_formed]
 simp only [List.length_append]
 omega
theorem small17_c : AC Tryz.prog 26 [] [] (.bo true) [] := by
 refine AC.enter2 [33, 63, 34, 35, 27, 28, 36, 31, 37] [] Tryz.func26 rfl (by decide) (by decide) (Nat.le_of_ble_eq_true rfl) (by kernel_rfl) ?_; simp only [eraseC, eraseO, List.map_cons, List.map_nil, List.map_toArray, List.getElem?_toArray, List.getElem?_cons_zero, List.getElem?_cons_succ, Option.bind_some, Option.bind_none, List.append_eq, List.cons_append, List.nil_append]
 have hkr := keyE_rng fkKey_right
 have hps : InL [fkKey.pub] := ⟨by decide, fun i hi => by rw [List.mem_singleton.1 hi]; exact hkr.2⟩
 have hps37 : InL [37] := ⟨by decide, fun i hi => by rw [List.mem_singleton.1 hi]; decide⟩
 have k1 := keySeed_c [97] (by decide)
 change AC _ _ _ _ (keyV fkKey) _ at k1
 have k2 := shead_c fkKey 0 fkB 4 hkr.1 (by decide) fkB_ok.iz
 change AC _ _ _ _ (headV fkNow) _ at k2
 have k3 := shead_c fkKey 0 fkA 2 hkr.1 (by decide) fkA_ok.iz
 change AC _ _ _ _ (headV fkOld) _ at k3
 have k4 := shead_c fkKey 0 (fkB.take 2) 3 hkr.1 (by decide) (fkB_ok.take 2).iz
 change AC _ _ _ _ (headV fkOld2) _ at k4
 have k5 := fkmake_c fkB fkNow fkOld fkB_ok
 rw [fk_made] at k5
 have k6 := fkmake_c fkB fkNow fkOld2 fkB_ok
 rw [fk_none] at k6
 have hle := fkE_len
 have k7 := fkbytes_c fkE (by omega)
 have k8 := fkread_c (evidB fkE) hle.1
 rw [readEv_back fk_formed] at k8
 have k9 := fkcheck_c [fkKey.pub] fkE hps (by omega)
 rw [fk_check] at k9
 have k10 := fkcheck_c [37] fkE hps37 (by omega)
 rw [fk_check37] at k10
 have k11 := fsame17_c fkE fkE (by omega) (by omega)
 rw [decide_eq_true (p := fkE = fkE) rfl] at k11
 have k12 := fkserver_c fkE
 rw [fk_old0] at k12
 have k13 := fkbytes_c evid0 (by decide)
 rw [show evidB evid0 = [] from rfl] at k13
 have hA : fkA = [fkEntry 1, fkEntry 2] := rfl
 have hB : fkB = [fkEntry 1, fkEntry 3, fkEntry 4] := rfl
 rw [hB] at k2 k4 k5 k6
 rw [hA] at k3
 clear hA hB
 have e1 := fkentry_c 1
 have e2 := fkentry_c 2
 have e3 := fkentry_c 3
 have e4 := fkentry_c 4
 generalize fkNow = now at *
 generalize fkOld = old at *
 generalize fkOld2 = old2 at *
 generalize fkE = ev at *
 generalize fkKey = ky at *
 generalize evidB ev = eb at *
 generalize fkEntry 1 = f1 at *
 generalize fkEntry 2 = f2 at *
 generalize fkEntry 3 = f3 at *
 generalize fkEntry 4 = f4 at *
 refine run ?_
 refine cp k1 ?_
 refine run ?_
 refine cp e1 ?_
 refine run ?_
 refine cp e2 ?_
 refine run ?_
 refine cp e1 ?_
 refine run ?_
 refine cp e3 ?_
 refine run ?_
 refine cp e4 ?_
 refine run ?_
 refine cp k2 ?_
 refine run ?_
 refine cp k3 ?_
 refine run ?_
 refine cp k5 ?_
 refine run ?_
 refine cp k4 ?_
 refine run ?_
 refine cp k6 ?_
 refine run ?_
 refine cp k7 ?_
 refine run ?_
 refine cp k8 ?_
 refine run ?_
 refine cp k9 ?_
 refine run ?_
 refine cp k10 ?_
 refine run ?_
 refine cp k11 ?_
 refine run ?_
 refine cp k12 ?_
 refine run ?_
 refine cp k13 ?_
 refine run ?_
 exact er0
end Go.Proofs.YthbpbkbjdfcnjaaGreatDoor.Pe
