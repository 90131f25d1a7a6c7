import Derived.Test.YtiidnoejnphocaaGreatDoorKs13
set_option linter.unusedSectionVars false
set_option linter.unusedVariables false
set_option linter.unusedSimpArgs false
namespace Go.Proofs.YtiidnoejnphocaaGreatDoor
section
namespace Pe
open Tryz
open Go Go.RowKit Co Sg Ac
set_option maxRecDepth 100000
set_option maxHeartbeats 4000000
theorem ZT (n : Int) : pub n = (decide (1 ≤ n) && decide (n < 2305843009213693951)) := by
 unfold pub wi;rw [show decide (n ≤ 2305843009213693950) = decide (n < 2305843009213693951) by rw [Bool.eq_iff_iff]; simp only [decide_eq_true_eq]; omega]
theorem Lo (n : Int) : AC prog 221 [.it .i64 n] [] (.bo (pub n)) [] := by
 refine Ai [] [] func221 ?_;rw [ZT];by_cases h : 1 ≤ n
 ·rw [decide_eq_true h]
  refine run ?_;exact Ab
 ·rw [decide_eq_false h]
  refine run ?_;exact Ab
theorem PB (b : Box) : AC prog 306 [JF b] [] (.bo (D0 b)) [] := by
 refine Ai [] [] func306 ?_;unfold D0;rw [GP];by_cases h1 : b.nonce.length = 32
 ·rw [decide_eq_true h1]
  by_cases h2 : b.tag.length = 16
  ·rw [decide_eq_true h2]
   refine run ?_;exact Ab
  ·rw [decide_eq_false h2]
   refine run ?_;exact Ab
 ·rw [decide_eq_false h1]
  refine run ?_;exact Ab
theorem T0 (b : Box) : AC prog 305 [JF b] [] (.bo (decide (b = Cq))) [] := by
 refine Ai [] [] func305 ?_;rw [PU];cases h1 : (b.nonce == []) with
 | false =>
  refine Aa @h1 ?_;exact Ab
 | true =>
  cases h2 : (b.data == []) with
  | false =>
   refine Aa (an @h1 @h2) ?_;exact Ab
  | true =>
   refine Aa (an @h1 @h2) ?_;exact Ab
theorem Ty (a : Ac.Act) (hw : a.wraps.length ≤ 140737488355328) : AC prog 227 [As a] [] (.bo (EB a)) [] := by
 refine Ai [221, 306] [] func227 ?_;unfold EB;have hsz : Ax 5 (a.wraps.map Ba) = true := Bh 5 Ba (fun _ => rfl) _
 refine run ?_;refine AF (fun m e S => e 1 = .ptr 0 0 ∧ ∃ (k : Nat) (T : Ae), e 3 = .it .i64 (k : Int) ∧ S = .cells (FE a) :: T ∧ k ≤ a.wraps.length ∧ (∀ j (h : j < a.wraps.length), j < k → Ca a.wraps[j] = true) ∧ m = a.wraps.length - k) (a.wraps.length)
  ⟨Ad, 0, [], Ad, rfl, by omega, fun j _ h => absurd h (Nat.not_lt_zero _), rfl⟩ ?_
 rintro m e S ⟨s1, k, T, s3, rfl, hk, hall, rfl⟩
 by_cases hlt : k < a.wraps.length
 rotate_left
 ·obtain rfl : k = a.wraps.length := by omega
  have h1 : a.wraps.all Ca = true := List.all_eq_true.2 fun x hx => by
   obtain ⟨j, hj, rfl⟩ := List.getElem_of_mem hx;exact hall j hj hj
  have h2 : decide (a.wraps.length = a.to.length) = ((a.wraps.length : Int) == (a.to.length : Int)) := by
   rw [Bool.eq_iff_iff];simp only [decide_eq_true_eq, beq_iff_eq];omega
  rw [h1, h2];have hx : ¬ ((a.wraps.length : Nat) : Int) < (a.wraps.length : Int) := by omega
  refine Aa (A3 @s1 @s3 @hx) ?_;exact Ab
 have hg : a.wraps[k]? = some a.wraps[k] := List.getElem?_eq_getElem hlt
 have hbad : Ca a.wraps[k] = false → a.wraps.all Ca = false := fun h => List.all_eq_false.2 ⟨_, List.getElem_mem hlt, by simp [h]⟩
 have hnext : Ca a.wraps[k] = true → ∀ j (h : j < a.wraps.length), j < k + 1 → Ca a.wraps[j] = true := fun hb j h hj => by
  by_cases e : j = k
  ·subst e; exact hb
  ·exact hall j h (by omega)
 generalize a.wraps[k] = x at *;have hT1 : ∀ y : SObj, (T ++ [y])[T.length]? = some y := fun y => by simp
 have hT2 : ∀ y z : SObj, (T ++ [y]).set T.length z = T ++ [z] := fun y z => by simp
 have hwx : Ca x = (pub x.to && pub x.eph && D0 x.box) := rfl;rw [hwx] at hbad hnext;refine Aa (A6 @s1 @s3 @hg @hsz @hT1 @hT2) ?_;refine cp (Lo x.to) ?_;cases h1 : pub x.to with
 | false =>
  rw [h1] at hbad;rw [hbad rfl];refine Aa (A4 @s1 @s3 @hT1 @hT2) ?_;exact Ab
 | true =>
  refine Aa (A4 @s1 @s3 @hT1 @hT2) ?_;refine cp (Lo x.eph) ?_;cases h2 : pub x.eph with
  | false =>
   rw [h1, h2] at hbad;rw [hbad rfl];refine Aa (A4 @s1 @s3 @hT1 @hT2) ?_;exact Ab
  | true =>
   refine Aa (A4 @s1 @s3 @hT1 @hT2) ?_;refine cp (PB x.box) ?_;cases h3 : D0 x.box with
   | false =>
    rw [h1, h2, h3] at hbad;rw [hbad rfl];refine Aa (A4 @s1 @s3 @hT1 @hT2) ?_;exact Ab
   | true =>
    refine Aa (A4 @s1 @s3 @hT1 @hT2) ?_;exact Ao (a.wraps.length - (k + 1)) (by omega) ⟨Ad, k + 1, T ++ [.cells (Ba x).cells], Ad, rfl, by omega, hnext (by rw [h1, h2, h3]; rfl), rfl⟩
def Gu (a : Ac.Act) : Bool := if a.scope = 2 then BQ a.group else decide (a.group = [])
theorem TY (a : Ac.Act) (h : a.group.length ≤ 140737488355328) : AC prog 226 [As a] [] (.bo (Gu a)) [] := by
 refine Ai [222] [] func226 ?_;unfold Gu;have hn := E3;by_cases h2 : a.scope = 2
 ·rw [if_pos h2]
  refine run ?_;refine cp (G3 a.group h) ?_;refine run ?_;exact Ab
 ·rw [if_neg h2]
  refine Aa @hn ?_;exact Ab
def PZ (a : Ac.Act) : Bool := BR a.to && Gu a && (if a.scope = 0 then decide (a.epoch = 0) && Cs a.text && decide (a.body = Cq)
 else if a.scope = 3 then wi a.epoch 0 1073741824 && decide (a.text = []) && D0 a.body
 else if a.scope = 1 ∨ a.scope = 2 then wi a.epoch 0 1073741824 && decide (a.text = []) && D0 a.body && decide (a.to = []) else false)
theorem Zeh (a : Ac.Act) : PZ a = DU a := by
 unfold PZ DU Gu Fo;by_cases h0 : a.scope = 0
 ·simp only [h0, if_true, show ¬ (0 : Int) = 2 by decide, if_false]
  rw [Bool.eq_iff_iff]; simp only [Bool.and_eq_true]; constructor <;> (intro h; simp only [h, and_self])
 by_cases h3 : a.scope = 3
 ·simp only [h3, show ¬ (3 : Int) = 0 by decide, show ¬ (3 : Int) = 2 by decide, if_false, if_true, or_true, decide_true, Bool.or_true, Bool.true_and]
  rw [Bool.eq_iff_iff]; simp only [Bool.and_eq_true]; constructor <;> (intro h; simp only [h, and_self])
 by_cases h1 : a.scope = 1
 ·simp only [h1, show ¬ (1 : Int) = 0 by decide, show ¬ (1 : Int) = 2 by decide, show ¬ (1 : Int) = 3 by decide, if_false, if_true, true_or, decide_false, Bool.or_false]
  rw [Bool.eq_iff_iff]; simp only [Bool.and_eq_true]; constructor <;> (intro h; simp only [h, and_self])
 by_cases h2 : a.scope = 2
 ·simp only [h2, show ¬ (2 : Int) = 0 by decide, show ¬ (2 : Int) = 3 by decide, if_false, if_true, or_true, decide_false, Bool.or_false]
  rw [Bool.eq_iff_iff]; simp only [Bool.and_eq_true]; constructor <;> (intro h; simp only [h, and_self])
 ·simp only [if_neg h0, if_neg h2, if_neg h3, if_neg (show ¬ (a.scope = 1 ∨ a.scope = 2) from fun h => h.elim h1 h2), if_neg (show ¬ (a.scope = 1 ∨ a.scope = 3) from fun h => h.elim h1 h3), Bool.and_false, Bool.false_and]
theorem PC (a : Ac.Act) (h : Sz a) : AC prog 223 [As a] [] (.bo (DU a)) [] := by
 rw [← Zeh];refine Ai [225, 226, 305, 306] [] func223 ?_;unfold PZ;have hn := E3;have hl := Ir a.to;have hs := GP a.text;refine run ?_;refine cp (JB a.to h.tos h.to) ?_;cases c1 : BR a.to with
 | false =>
  refine run ?_;exact Ab
 | true =>
 refine run ?_;refine cp (TY a h.group) ?_;cases c2 : Gu a with
 | false =>
  refine run ?_;exact Ab
 | true =>
 by_cases h0 : a.scope = 0
 ·rw [if_pos h0]
  by_cases e1 : a.epoch = 0
  rotate_left
  ·rw [decide_eq_false e1]
   refine run ?_;exact Ab
  rw [decide_eq_true e1, hs];cases e2 : decide ((a.text.length : Int) ≤ 500) with
  | false =>
   refine Aa @e2 ?_;exact Ab
  | true =>
  refine Aa @e2 ?_;refine cp (T0 a.body) ?_;refine run ?_;exact Ab
 rw [if_neg h0];by_cases h3 : a.scope = 3
 ·rw [if_pos h3]
  by_cases e1 : 0 ≤ a.epoch
  rotate_left
  ·rw [show wi a.epoch 0 1073741824 = false by unfold wi; rw [decide_eq_false e1]; rfl]
   refine run ?_;exact Ab
  by_cases e2 : a.epoch ≤ 1073741824
  rotate_left
  ·rw [show wi a.epoch 0 1073741824 = false by unfold wi; rw [decide_eq_false e2, Bool.and_false]]
   refine run ?_;exact Ab
  rw [show wi a.epoch 0 1073741824 = true from Bb.2 ⟨e1, e2⟩]
  cases e3 : decide (a.text = []) with
  | false =>
   refine Aa (an @hn @e3) ?_;exact Ab
  | true =>
  refine Aa (an @hn @e3) ?_;refine cp (PB a.body) ?_;refine run ?_;exact Ab
 rw [if_neg h3];by_cases h12 : a.scope = 1 ∨ a.scope = 2
 rotate_left
 ·rw [if_neg h12]
  have n1 : ¬ a.scope = 1 := fun h => h12 (.inl h)
  have n2 : ¬ a.scope = 2 := fun h => h12 (.inr h)
  refine run ?_;exact Ab
 rw [if_pos h12];rcases h12 with h12 | h12
 iterate 2
  ·skip
   by_cases e1 : 0 ≤ a.epoch
   rotate_left
   ·rw [show wi a.epoch 0 1073741824 = false by unfold wi; rw [decide_eq_false e1]; rfl]
    refine run ?_;exact Ab
   by_cases e2 : a.epoch ≤ 1073741824
   rotate_left
   ·rw [show wi a.epoch 0 1073741824 = false by unfold wi; rw [decide_eq_false e2, Bool.and_false]]
    refine run ?_;exact Ab
   rw [show wi a.epoch 0 1073741824 = true from Bb.2 ⟨e1, e2⟩]
   cases e3 : decide (a.text = []) with
   | false =>
    refine Aa (an @hn @e3) ?_;exact Ab
   | true =>
   refine Aa (an @hn @e3) ?_;refine cp (PB a.body) ?_;cases e4 : D0 a.body with
   | false =>
    refine run ?_;exact Ab
   | true =>
   refine Aa @hl ?_;exact Ab
def B8 (a : Ac.Act) : Ac.Act := { a with scope := 0, group := [], to := [], text := [], body := Cq, epoch := 0 }
theorem G5 (a : Ac.Act) : AC prog 224 [As a] [] (As (B8 a)) [] := by
 refine Ai [] [] func224 ?_;refine run ?_;exact Am
def Be (a : Ac.Act) : Bool := decide (a.object = []) && decide (a.target = []) && decide (a.scope = 0) && decide (a.group = []) && decide (a.to = []) && decide (a.text = []) && decide (a.body = Cq) && decide (a.epoch = 0) && decide (a.wraps = []) && decide (a.n = 0) && decide (a.m = 0)
theorem Dq (a : Ac.Act) : AC prog 228 [As a] [] (.bo (Be a)) [] := by
 refine Ai [305] [] func228 ?_;unfold Be;have hn := E3;have hl1 := Ir a.to;have hl2 := Ir a.wraps;cases c0 : decide (a.object = []) with
 | false =>
  refine Aa (A4 @hn @hl1 @hl2 @c0) ?_;exact Ab
 | true =>
 cases c1 : decide (a.target = []) with
 | false =>
  refine Aa (A5 @hn @hl1 @hl2 @c0 @c1) ?_;exact Ab
 | true =>
 by_cases p2 : a.scope = 0
 rotate_left
 ·rw [decide_eq_false p2]
  refine Aa (A5 @hn @hl1 @hl2 @c0 @c1) ?_;exact Ab
 rw [decide_eq_true p2];cases c3 : decide (a.group = []) with
 | false =>
  refine Aa (A6 @hn @hl1 @hl2 @c0 @c1 @c3) ?_;exact Ab
 | true =>
 cases c4 : decide (a.to = []) with
 | false =>
  refine Aa (A7 @hn @hl1 @hl2 @c0 @c1 @c3 @c4) ?_;exact Ab
 | true =>
 cases c5 : decide (a.text = []) with
 | false =>
  refine Aa (A8 @hn @hl1 @hl2 @c0 @c1 @c3 @c4 @c5) ?_;exact Ab
 | true =>
 refine Aa (A8 @hn @hl1 @hl2 @c0 @c1 @c3 @c4 @c5) ?_;refine cp (T0 a.body) ?_;cases c6 : decide (a.body = Cq) with
 | false =>
  refine run ?_;exact Ab
 | true =>
 by_cases p7 : a.epoch = 0
 rotate_left
 ·rw [decide_eq_false p7]
  refine Aa (A8 @hn @hl1 @hl2 @c0 @c1 @c3 @c4 @c5) ?_;exact Ab
 rw [decide_eq_true p7];cases c8 : decide (a.wraps = []) with
 | false =>
  refine Aa (A9 @hn @hl1 @hl2 @c0 @c1 @c3 @c4 @c5 @c8) ?_;exact Ab
 | true =>
 by_cases p9 : a.n = 0
 rotate_left
 ·rw [decide_eq_false p9]
  refine Aa (A9 @hn @hl1 @hl2 @c0 @c1 @c3 @c4 @c5 @c8) ?_;exact Ab
 rw [decide_eq_true p9];by_cases p10 : a.m = 0
 rotate_left
 ·rw [decide_eq_false p10]
  refine Aa (A9 @hn @hl1 @hl2 @c0 @c1 @c3 @c4 @c5 @c8) ?_;exact Ab
 rw [decide_eq_true p10];refine Aa (A9 @hn @hl1 @hl2 @c0 @c1 @c3 @c4 @c5 @c8) ?_;exact Ab
def A1 (a : Ac.Act) : Bool := match EW a.kind with
 | none => false
 | some r => out a r && r.ok a
theorem Zp (a : Ac.Act) : Ac.right a = (AD a.author && Ck a && wi a.time 0 1099511627776 && AI a.sig && A1 a) := by
 unfold Ac.right A1;cases h : EW a.kind with
 | none => rfl
 | some r =>
  have e : decide (Go.bits .andNot .i64 (H3 a) r.mask = 0) = out a r := SE r _ _ _ _ _ _ _ _ _ _ _;simp only [e]
theorem DJ (m : Int) : wi m 0 19 = (decide (0 ≤ m) && decide (m < 20)) := by
 unfold wi;rw [show decide (m ≤ 19) = decide (m < 20) by rw [Bool.eq_iff_iff]; simp only [decide_eq_true_eq]; omega]
theorem DL (a : Ac.Act) : (decide (1 ≤ a.scope) && decide (a.scope ≤ 3) && Gu a) = Fo a.scope a.group := by
 unfold Gu Fo;by_cases h2 : a.scope = 2
 ·rw [if_pos h2, if_pos h2, h2]; rfl
 rw [if_neg h2, if_neg h2];by_cases h13 : a.scope = 1 ∨ a.scope = 3
 ·rw [if_pos h13, decide_eq_true (show 1 ≤ a.scope by omega), decide_eq_true (show a.scope ≤ 3 by omega)]; rfl
 ·rw [if_neg h13]
  by_cases h1 : 1 ≤ a.scope
  ·rw [decide_eq_false (show ¬ a.scope ≤ 3 by omega), Bool.and_false]; rfl
  ·rw [decide_eq_false h1]; rfl
theorem TZ (a : Ac.Act) (h : Sz a) : AC prog 136 [As a] [] (.bo (A1 a)) [] := by
 refine Ai [221, 222, 223, 224, 135, 225, 226, 227, 228] [] func136 ?_;have hn := E3;by_cases hr : 0 ≤ a.kind ∧ a.kind ≤ 23
 rotate_left
 ·have hv : A1 a = false := by
   unfold A1;rw [Y0 (by omega)]
  rw [hv];refine run ?_;exact Ab
 have hks : a.kind = 0 ∨ a.kind = 1 ∨ a.kind = 2 ∨ a.kind = 3 ∨ a.kind = 4 ∨ a.kind = 5 ∨ a.kind = 6 ∨ a.kind = 7 ∨ a.kind = 8 ∨ a.kind = 9 ∨ a.kind = 10 ∨ a.kind = 11 ∨ a.kind = 12 ∨ a.kind = 13 ∨ a.kind = 14 ∨ a.kind = 15 ∨ a.kind = 16 ∨ a.kind = 17 ∨ a.kind = 18 ∨ a.kind = 19 ∨ a.kind = 20 ∨ a.kind = 21 ∨ a.kind = 22 ∨ a.kind = 23 := by omega
 rcases hks with hk | hk | hk | hk | hk | hk | hk | hk | hk | hk | hk | hk | hk | hk | hk | hk | hk | hk | hk | hk | hk | hk | hk | hk
 ·have hv : A1 a = (pub a.n && decide (0 ≤ a.m) && decide (a.m < 20) && BQ a.text && Be { a with text := [], n := 0, m := 0 }) := by
   unfold A1;rw [hk];show (out a .begin && Ru.ok a .begin) = _
   simp only [out, CJ, Ru.ok, home, Ac.grant, Ac.setup, ← DL, DJ, Be, B8, decide_true, Bool.and_true, Bool.true_and];ac_rfl
  rw [hv];refine Aa @hn ?_;refine cp (Lo a.n) ?_;cases c0 : pub a.n with
  | false =>
   refine Aa @hn ?_;refine cp (G3 a.text h.text) ?_;refine Aa @hn ?_;exact Ab
  | true =>
  by_cases p1 : 0 ≤ a.m
  rotate_left
  ·rw [decide_eq_false p1]
   refine Aa @hn ?_;refine cp (G3 a.text h.text) ?_;refine Aa @hn ?_;exact Ab
  rw [decide_eq_true p1];by_cases p2 : a.m < 20
  rotate_left
  ·rw [decide_eq_false p2]
   refine Aa @hn ?_;refine cp (G3 a.text h.text) ?_;refine Aa @hn ?_;exact Ab
  rw [decide_eq_true p2];refine Aa @hn ?_;refine cp (G3 a.text h.text) ?_;cases c3 : BQ a.text with
  | false =>
   refine Aa @hn ?_;exact Ab
  | true =>
  refine Aa @hn ?_;refine cp (Dq { a with text := [], n := 0, m := 0 }) ?_
  refine Aa @hn ?_;exact Ab
 ·have hv : A1 a = (DU a && Be (B8 a)) := by
   unfold A1;rw [hk];show (out a .post && Ru.ok a .post) = _
   simp only [out, CJ, Ru.ok, home, Ac.grant, Ac.setup, ← DL, DJ, wi, Be, B8, decide_true, Bool.and_true, Bool.true_and];ac_rfl
  rw [hv];refine Aa @hn ?_;refine cp (PC a h) ?_;cases c0 : DU a with
  | false =>
   refine Aa @hn ?_;refine cp (G5 a) ?_;refine Aa @hn ?_;exact Ab
  | true =>
  refine Aa @hn ?_;refine cp (G5 a) ?_;refine Aa @hn ?_;refine cp (Dq (B8 a)) ?_;refine Aa @hn ?_;exact Ab
 iterate 2
  ·have hv : A1 a = (DU a && AP a.object && Be { B8 a with object := [] }) := by
    unfold A1;rw [hk];show (out a .reply && Ru.ok a .reply) = _
    simp only [out, CJ, Ru.ok, home, Ac.grant, Ac.setup, ← DL, DJ, wi, Be, B8, decide_true, Bool.and_true, Bool.true_and];ac_rfl
   rw [hv];refine Aa @hn ?_;refine cp (PC a h) ?_;cases c0 : DU a with
   | false =>
    refine Aa @hn ?_;refine cp (G5 a) ?_;refine Aa @hn ?_;exact Ab
   | true =>
   rw [C4];cases c1 : ((a.object.length : Int) == 32) with
   | false =>
    refine Aa (an @hn @c1) ?_;refine cp (G5 a) ?_;refine Aa (an @hn @c1) ?_;exact Ab
   | true =>
   refine Aa (an @hn @c1) ?_;refine cp (G5 a) ?_;refine Aa (an @hn @c1) ?_;refine cp (Dq { B8 a with object := [] }) ?_
   refine Aa (an @hn @c1) ?_;exact Ab
 iterate 3
  ·have hv : A1 a = (AP a.object && Be { a with object := [] }) := by
    unfold A1;rw [hk];show (out a .about && Ru.ok a .about) = _
    simp only [out, CJ, Ru.ok, home, Ac.grant, Ac.setup, ← DL, DJ, wi, Be, B8, decide_true, Bool.and_true, Bool.true_and];ac_rfl
   rw [hv];rw [C4];cases c0 : ((a.object.length : Int) == 32) with
   | false =>
    refine Aa (an @hn @c0) ?_;exact Ab
   | true =>
   refine Aa (an @hn @c0) ?_;refine cp (Dq { a with object := [] }) ?_
   refine Aa (an @hn @c0) ?_;exact Ab
 iterate 5
  ·have hv : A1 a = (AD a.target && Be { a with target := [] }) := by
    unfold A1;rw [hk];show (out a .tie && Ru.ok a .tie) = _
    simp only [out, CJ, Ru.ok, home, Ac.grant, Ac.setup, ← DL, DJ, wi, Be, B8, decide_true, Bool.and_true, Bool.true_and];ac_rfl
   rw [hv];refine Aa @hn ?_;refine cp (DG a.target h.target) ?_;cases c0 : AD a.target with
   | false =>
    refine Aa @hn ?_;exact Ab
   | true =>
   refine Aa @hn ?_;refine cp (Dq { a with target := [] }) ?_
   refine Aa @hn ?_;exact Ab
 ·have hv : A1 a = (AP a.object && Cs a.text && Be { a with object := [], text := [] }) := by
   unfold A1;rw [hk];show (out a .reason && Ru.ok a .reason) = _
   simp only [out, CJ, Ru.ok, home, Ac.grant, Ac.setup, ← DL, DJ, wi, Be, B8, decide_true, Bool.and_true, Bool.true_and];ac_rfl
  rw [hv];rw [C4];cases c0 : ((a.object.length : Int) == 32) with
  | false =>
   refine Aa (an @hn @c0) ?_;exact Ab
  | true =>
  rw [GP];cases c1 : decide ((a.text.length : Int) ≤ 500) with
  | false =>
   refine Aa (A3 @hn @c0 @c1) ?_;exact Ab
  | true =>
  refine Aa (A3 @hn @c0 @c1) ?_;refine cp (Dq { a with object := [], text := [] }) ?_
  refine Aa (A3 @hn @c0 @c1) ?_;exact Ab
 ·have hv : A1 a = (AP a.object && Be { a with object := [] }) := by
   unfold A1;rw [hk];show (out a .about && Ru.ok a .about) = _
   simp only [out, CJ, Ru.ok, home, Ac.grant, Ac.setup, ← DL, DJ, wi, Be, B8, decide_true, Bool.and_true, Bool.true_and];ac_rfl
  rw [hv];rw [C4];cases c0 : ((a.object.length : Int) == 32) with
  | false =>
   refine Aa (an @hn @c0) ?_;exact Ab
  | true =>
  refine Aa (an @hn @c0) ?_;refine cp (Dq { a with object := [] }) ?_
  refine Aa (an @hn @c0) ?_;exact Ab
 ·have hv : A1 a = (DU a && AP a.object && Be { B8 a with object := [] }) := by
   unfold A1;rw [hk];show (out a .reply && Ru.ok a .reply) = _
   simp only [out, CJ, Ru.ok, home, Ac.grant, Ac.setup, ← DL, DJ, wi, Be, B8, decide_true, Bool.and_true, Bool.true_and];ac_rfl
  rw [hv];refine Aa @hn ?_;refine cp (PC a h) ?_;cases c0 : DU a with
  | false =>
   refine Aa @hn ?_;refine cp (G5 a) ?_;refine Aa @hn ?_;exact Ab
  | true =>
  rw [C4];cases c1 : ((a.object.length : Int) == 32) with
  | false =>
   refine Aa (an @hn @c1) ?_;refine cp (G5 a) ?_;refine Aa (an @hn @c1) ?_;exact Ab
  | true =>
  refine Aa (an @hn @c1) ?_;refine cp (G5 a) ?_;refine Aa (an @hn @c1) ?_;refine cp (Dq { B8 a with object := [] }) ?_
  refine Aa (an @hn @c1) ?_;exact Ab
 ·have hv : A1 a = (BR a.to && BQ a.group && Be { a with group := [], to := [] }) := by
   unfold A1;rw [hk];show (out a .circle && Ru.ok a .circle) = _
   simp only [out, CJ, Ru.ok, home, Ac.grant, Ac.setup, ← DL, DJ, wi, Be, B8, decide_true, Bool.and_true, Bool.true_and];ac_rfl
  rw [hv];refine Aa @hn ?_;refine cp (JB a.to h.tos h.to) ?_;cases c0 : BR a.to with
  | false =>
   refine Aa @hn ?_;exact Ab
  | true =>
  refine Aa @hn ?_;refine cp (G3 a.group h.group) ?_;cases c1 : BQ a.group with
  | false =>
   refine Aa @hn ?_;exact Ab
  | true =>
  refine Aa @hn ?_;refine cp (Dq { a with group := [], to := [] }) ?_
  refine Aa @hn ?_;exact Ab
 ·have hv : A1 a = (BR a.to && decide (1 ≤ a.scope) && decide (a.scope ≤ 3) && Gu a && decide (0 ≤ a.epoch) && decide (a.epoch ≤ 1073741824) && EB a && Be { a with scope := 0, group := [], to := [], epoch := 0, wraps := [] }) := by
   unfold A1;rw [hk];show (out a .grant && Ru.ok a .grant) = _
   simp only [out, CJ, Ru.ok, home, Ac.grant, Ac.setup, ← DL, DJ, wi, Be, B8, decide_true, Bool.and_true, Bool.true_and];ac_rfl
  rw [hv];refine Aa @hn ?_;refine cp (JB a.to h.tos h.to) ?_;cases c0 : BR a.to with
  | false =>
   refine Aa @hn ?_;exact Ab
  | true =>
  by_cases p1 : 1 ≤ a.scope
  rotate_left
  ·rw [decide_eq_false p1]
   refine Aa @hn ?_;exact Ab
  rw [decide_eq_true p1];by_cases p2 : a.scope ≤ 3
  rotate_left
  ·rw [decide_eq_false p2]
   refine Aa @hn ?_;exact Ab
  rw [decide_eq_true p2];refine Aa @hn ?_;refine cp (TY a h.group) ?_;cases c3 : Gu a with
  | false =>
   refine Aa @hn ?_;exact Ab
  | true =>
  by_cases p4 : 0 ≤ a.epoch
  rotate_left
  ·rw [decide_eq_false p4]
   refine Aa @hn ?_;exact Ab
  rw [decide_eq_true p4];by_cases p5 : a.epoch ≤ 1073741824
  rotate_left
  ·rw [decide_eq_false p5]
   refine Aa @hn ?_;exact Ab
  rw [decide_eq_true p5];refine Aa @hn ?_;refine cp (Ty a h.wraps) ?_;cases c6 : EB a with
  | false =>
   refine Aa @hn ?_;exact Ab
  | true =>
  refine Aa @hn ?_;refine cp (Dq { a with scope := 0, group := [], to := [], epoch := 0, wraps := [] }) ?_
  refine Aa @hn ?_;exact Ab
 ·by_cases ho : a.object = []
  ·have hv : A1 a = (BQ a.text && AD a.target && Be { a with text := [], object := [], target := [] }) := by
    unfold A1;rw [hk];show (out a .label && Ru.ok a .label) = _
    have hd : AP a.object = false := by unfold AP; rw [ho]; rfl
    simp only [out, CJ, Ru.ok, Ac.label, hd, ho, Bool.false_and, Bool.false_or, Be, B8, decide_true, Bool.and_true, Bool.true_and];ac_rfl
   rw [hv];have hob : (a.object == []) = true := by rw [ho]; rfl
   refine Aa (an @hn @hob) ?_;refine cp (G3 a.text h.text) ?_;cases c0 : BQ a.text with
   | false =>
    refine Aa (an @hn @hob) ?_;refine cp (DG a.target h.target) ?_;refine Aa (an @hn @hob) ?_;exact Ab
   | true =>
   refine Aa (an @hn @hob) ?_;refine cp (DG a.target h.target) ?_;cases c1 : AD a.target with
   | false =>
    refine Aa (an @hn @hob) ?_;exact Ab
   | true =>
   refine Aa (an @hn @hob) ?_;refine cp (Dq { a with text := [], object := [], target := [] }) ?_
   refine Aa (an @hn @hob) ?_;exact Ab
  ·have hv : A1 a = (BQ a.text && AP a.object && decide (a.target = []) && Be { a with text := [], object := [], target := [] }) := by
    unfold A1;rw [hk];show (out a .label && Ru.ok a .label) = _
    simp only [out, CJ, Ru.ok, Ac.label, decide_eq_false ho, Bool.and_false, Bool.or_false, Be, B8, decide_true, Bool.and_true, Bool.true_and];ac_rfl
   rw [hv];have hob : (a.object == []) = false := by simpa using ho
   refine Aa (an @hn @hob) ?_;refine cp (G3 a.text h.text) ?_;cases c0 : BQ a.text with
   | false =>
    refine Aa (an @hn @hob) ?_;exact Ab
   | true =>
   rw [C4];cases c1 : ((a.object.length : Int) == 32) with
   | false =>
    refine Aa (A3 @hn @hob @c1) ?_;exact Ab
   | true =>
   cases c2 : decide (a.target = []) with
   | false =>
    refine Aa (A4 @hn @hob @c1 @c2) ?_;exact Ab
   | true =>
   refine Aa (A4 @hn @hob @c1 @c2) ?_;refine cp (Dq { a with text := [], object := [], target := [] }) ?_
   refine Aa (A4 @hn @hob @c1 @c2) ?_;exact Ab
 ·have hv : A1 a = (pub a.n && decide (0 ≤ a.m) && decide (a.m < 20) && Be { a with n := 0, m := 0 }) := by
   unfold A1;rw [hk];show (out a .move && Ru.ok a .move) = _
   simp only [out, CJ, Ru.ok, home, Ac.grant, Ac.setup, ← DL, DJ, Be, B8, decide_true, Bool.and_true, Bool.true_and];ac_rfl
  rw [hv];refine Aa @hn ?_;refine cp (Lo a.n) ?_;cases c0 : pub a.n with
  | false =>
   refine Aa @hn ?_;exact Ab
  | true =>
  by_cases p1 : 0 ≤ a.m
  rotate_left
  ·rw [decide_eq_false p1]
   refine Aa @hn ?_;exact Ab
  rw [decide_eq_true p1];by_cases p2 : a.m < 20
  rotate_left
  ·rw [decide_eq_false p2]
   refine Aa @hn ?_;exact Ab
  rw [decide_eq_true p2];refine Aa @hn ?_;refine cp (Dq { a with n := 0, m := 0 }) ?_
  refine Aa @hn ?_;exact Ab
 ·have hv : A1 a = (BR a.to && decide (0 < a.to.length) && EB a && decide (1 ≤ a.n) && decide (a.n ≤ (a.to.length : Int)) && pub a.m && Be { a with to := [], wraps := [], n := 0, m := 0 }) := by
   unfold A1;rw [hk];show (out a .setup && Ru.ok a .setup) = _
   simp only [out, CJ, Ru.ok, home, Ac.grant, Ac.setup, ← DL, DJ, wi, Be, B8, decide_true, Bool.and_true, Bool.true_and];ac_rfl
  rw [hv];refine Aa @hn ?_;refine cp (JB a.to h.tos h.to) ?_;cases c0 : BR a.to with
  | false =>
   refine Aa @hn ?_;exact Ab
  | true =>
  by_cases p1 : 0 < a.to.length
  rotate_left
  ·rw [decide_eq_false p1]
   refine Aa @hn ?_;exact Ab
  rw [decide_eq_true p1];refine Aa @hn ?_;refine cp (Ty a h.wraps) ?_;cases c2 : EB a with
  | false =>
   refine Aa @hn ?_;exact Ab
  | true =>
  by_cases p3 : 1 ≤ a.n
  rotate_left
  ·rw [decide_eq_false p3]
   refine Aa @hn ?_;exact Ab
  rw [decide_eq_true p3];by_cases p4 : a.n ≤ (a.to.length : Int)
  rotate_left
  ·rw [decide_eq_false p4]
   refine Aa @hn ?_;exact Ab
  rw [decide_eq_true p4];refine Aa @hn ?_;refine cp (Lo a.m) ?_;cases c5 : pub a.m with
  | false =>
   refine Aa @hn ?_;exact Ab
  | true =>
  refine Aa @hn ?_;refine cp (Dq { a with to := [], wraps := [], n := 0, m := 0 }) ?_
  refine Aa @hn ?_;exact Ab
 ·have hv : A1 a = (AP a.object && Be { a with object := [] }) := by
   unfold A1;rw [hk];show (out a .about && Ru.ok a .about) = _
   simp only [out, CJ, Ru.ok, home, Ac.grant, Ac.setup, ← DL, DJ, wi, Be, B8, decide_true, Bool.and_true, Bool.true_and];ac_rfl
  rw [hv];rw [C4];cases c0 : ((a.object.length : Int) == 32) with
  | false =>
   refine Aa (an @hn @c0) ?_;exact Ab
  | true =>
  refine Aa (an @hn @c0) ?_;refine cp (Dq { a with object := [] }) ?_
  refine Aa (an @hn @c0) ?_;exact Ab
 ·have hv : A1 a = (AP a.object && Cs a.text && Be { a with object := [], text := [] }) := by
   unfold A1;rw [hk];show (out a .reason && Ru.ok a .reason) = _
   simp only [out, CJ, Ru.ok, home, Ac.grant, Ac.setup, ← DL, DJ, wi, Be, B8, decide_true, Bool.and_true, Bool.true_and];ac_rfl
  rw [hv];rw [C4];cases c0 : ((a.object.length : Int) == 32) with
  | false =>
   refine Aa (an @hn @c0) ?_;exact Ab
  | true =>
  rw [GP];cases c1 : decide ((a.text.length : Int) ≤ 500) with
  | false =>
   refine Aa (A3 @hn @c0 @c1) ?_;exact Ab
  | true =>
  refine Aa (A3 @hn @c0 @c1) ?_;refine cp (Dq { a with object := [], text := [] }) ?_
  refine Aa (A3 @hn @c0 @c1) ?_;exact Ab
 ·have hv : A1 a = (AP a.object && decide (0 ≤ a.n) && decide (a.n ≤ 1) && Be { a with object := [], n := 0 }) := by
   unfold A1;rw [hk];show (out a .judge && Ru.ok a .judge) = _
   simp only [out, CJ, Ru.ok, home, Ac.grant, Ac.setup, ← DL, DJ, wi, Be, B8, decide_true, Bool.and_true, Bool.true_and];ac_rfl
  rw [hv];rw [C4];cases c0 : ((a.object.length : Int) == 32) with
  | false =>
   refine Aa (an @hn @c0) ?_;exact Ab
  | true =>
  by_cases p1 : 0 ≤ a.n
  rotate_left
  ·rw [decide_eq_false p1]
   refine Aa (an @hn @c0) ?_;exact Ab
  rw [decide_eq_true p1];by_cases p2 : a.n ≤ 1
  rotate_left
  ·rw [decide_eq_false p2]
   refine Aa (an @hn @c0) ?_;exact Ab
  rw [decide_eq_true p2];refine Aa (an @hn @c0) ?_;refine cp (Dq { a with object := [], n := 0 }) ?_
  refine Aa (an @hn @c0) ?_;exact Ab
 ·have hv : A1 a = (AD a.target && Cs a.text && decide (0 ≤ a.n) && decide (a.n ≤ 1099511627776) && Be { a with target := [], text := [], n := 0 }) := by
   unfold A1;rw [hk];show (out a .list && Ru.ok a .list) = _
   simp only [out, CJ, Ru.ok, home, Ac.grant, Ac.setup, ← DL, DJ, wi, Be, B8, decide_true, Bool.and_true, Bool.true_and];ac_rfl
  rw [hv];refine Aa @hn ?_;refine cp (DG a.target h.target) ?_;cases c0 : AD a.target with
  | false =>
   refine Aa @hn ?_;exact Ab
  | true =>
  rw [GP];cases c1 : decide ((a.text.length : Int) ≤ 500) with
  | false =>
   refine Aa (an @hn @c1) ?_;exact Ab
  | true =>
  by_cases p2 : 0 ≤ a.n
  rotate_left
  ·rw [decide_eq_false p2]
   refine Aa (an @hn @c1) ?_;exact Ab
  rw [decide_eq_true p2];by_cases p3 : a.n ≤ 1099511627776
  rotate_left
  ·rw [decide_eq_false p3]
   refine Aa (an @hn @c1) ?_;exact Ab
  rw [decide_eq_true p3];refine Aa (an @hn @c1) ?_;refine cp (Dq { a with target := [], text := [], n := 0 }) ?_
  refine Aa (an @hn @c1) ?_;exact Ab
end Pe
end
section
namespace Pe
open Tryz
open Go Go.RowKit Co Sg Ac
set_option maxRecDepth 100000
set_option maxHeartbeats 4000000
theorem G2 (a : Ac.Act) (h : Sz a) : AC prog 69 [As a] [] (.bo (Ac.right a)) [] := by
 refine Ai [135, 136] [] func69 ?_;obtain ⟨q, hq⟩ : ∃ q, Ac.right a = q := ⟨_, rfl⟩
 rw [hq];rw [Zp] at hq;have hn := E3;refine run ?_;refine cp (DG a.author h.author) ?_;cases c0 : AD a.author with
 | false =>
  obtain rfl : q = false := by rw [← hq, c0]; rfl
  refine run ?_;exact Ab
 | true =>
 by_cases s0 : 0 ≤ a.seq
 rotate_left
 ·obtain rfl : q = false := by
   rw [← hq];have hp : Ck a = false := by unfold Ck; split <;> simp [wi, AP] <;> omega
   rw [hp]; simp
  refine Aa @hn ?_;exact Ab
 by_cases s1 : a.seq ≤ 1073741824
 rotate_left
 ·obtain rfl : q = false := by
   rw [← hq];have hp : Ck a = false := by unfold Ck; split <;> simp [wi, AP] <;> omega
   rw [hp]; simp
  refine Aa @hn ?_;exact Ab
 by_cases t0 : 0 ≤ a.time
 rotate_left
 ·obtain rfl : q = false := by
   rw [← hq];have hp : wi a.time 0 1099511627776 = false := by simp [wi]; omega
   rw [hp]; simp
  refine Aa @hn ?_;exact Ab
 by_cases t1 : a.time ≤ 1099511627776
 rotate_left
 ·obtain rfl : q = false := by
   rw [← hq];have hp : wi a.time 0 1099511627776 = false := by simp [wi]; omega
   rw [hp]; simp
  refine Aa @hn ?_;exact Ab
 by_cases e0 : 0 ≤ a.sig.e
 rotate_left
 ·obtain rfl : q = false := by
   rw [← hq];have hp : AI a.sig = false := by simp [AI, wi]; omega
   rw [hp]; simp
  refine Aa @hn ?_;exact Ab
 by_cases e1 : a.sig.e < 2305843009213693950
 rotate_left
 ·obtain rfl : q = false := by
   rw [← hq];have hp : AI a.sig = false := by simp [AI, wi]; omega
   rw [hp]; simp
  refine Aa @hn ?_;exact Ab
 by_cases f0 : 0 ≤ a.sig.s
 rotate_left
 ·obtain rfl : q = false := by
   rw [← hq];have hp : AI a.sig = false := by simp [AI, wi]; omega
   rw [hp]; simp
  refine Aa @hn ?_;exact Ab
 by_cases f1 : a.sig.s < 2305843009213693950
 rotate_left
 ·obtain rfl : q = false := by
   rw [← hq];have hp : AI a.sig = false := by simp [AI, wi]; omega
   rw [hp]; simp
  refine Aa @hn ?_;exact Ab
 have htm : wi a.time 0 1099511627776 = true := Bb.2 ⟨t0, t1⟩;have hsg : AI a.sig = true := by simp [AI, wi]; omega
 by_cases z : a.seq = 0
 ·cases cp0 : decide (a.prev = []) with
  | false =>
   obtain rfl : q = false := by
    have hp : Ck a = false := by unfold Ck; rw [if_pos z, cp0, Bool.and_false]
    rw [← hq, hp]; simp
   refine Aa (an @hn @cp0) ?_;exact Ab
  | true =>
  by_cases kz : a.kind = 0
  rotate_left
  ·obtain rfl : q = false := by
    have hp : Ck a = false := by unfold Ck; rw [if_pos z, decide_eq_false kz]; rfl
    rw [← hq, hp]; simp
   refine Aa (an @hn @cp0) ?_;exact Ab
  obtain rfl : q = A1 a := by
   have hp : Ck a = true := by unfold Ck; rw [if_pos z, decide_eq_true kz, cp0]; rfl
   rw [← hq, hp, c0, htm, hsg]; rfl
  refine Aa (an @hn @cp0) ?_;refine cp (TZ a h) ?_;refine run ?_;exact Ab
 ·have z' : 1 ≤ a.seq := by omega
  have hw1 : wi a.seq 1 1073741824 = true := Bb.2 ⟨z', s1⟩;have hd := C4 a.prev;cases cd : ((a.prev.length : Int) == 32) with
  | false =>
   have cd' : ((a.prev.length : Int) != 32) = true := by simpa [bne] using cd
   obtain rfl : q = false := by
    have hp : Ck a = false := by unfold Ck; rw [if_neg z, hd, cd, Bool.and_false]
    rw [← hq, hp]; simp
   refine Aa @cd' ?_;exact Ab
  | true =>
  have cd' : ((a.prev.length : Int) != 32) = false := by simpa [bne] using cd
  by_cases kz : a.kind = 0
  ·obtain rfl : q = false := by
    have hp : Ck a = false := by unfold Ck; rw [if_neg z, hw1, decide_eq_false (show ¬ a.kind ≠ 0 from fun h => h kz)]; rfl
    rw [← hq, hp]; simp
   refine Aa @cd' ?_;exact Ab
  obtain rfl : q = A1 a := by
   have hp : Ck a = true := by unfold Ck; rw [if_neg z, hw1, decide_eq_true (show a.kind ≠ 0 from kz), hd, cd]; rfl
   rw [← hq, hp, c0, htm, hsg]; rfl
  refine Aa @cd' ?_;refine cp (TZ a h) ?_;refine run ?_;exact Ab
theorem T2 (b : Box) (h : b.nonce.length ≤ 1000000 ∧ b.data.length ≤ 1000000 ∧ b.tag.length ≤ 1000000) : AC prog 162 [JF b] [] (.st (Zzd b)) [] := by
 refine Ai [77] [] func162 ?_;have l1 := AG h.1;have l2 := AG h.2.1;have l3 := AG h.2.2;unfold Zzd;refine run ?_;refine cp (Bq b.nonce (by omega)) ?_
 refine run ?_;refine cp (Bq b.data (by omega)) ?_
 refine run ?_;refine cp (Bq b.tag (by omega)) ?_
 refine run ?_;exact Ab
def Ie (a : Ac.Act) : By :=
 text FL ++ text a.author ++ Ag a.seq ++ text a.prev ++ Ag a.kind ++ Ag a.time ++ text a.object ++ text a.target ++ Ag a.scope ++ text a.group ++ list a.to ++ text a.text ++ Zzd a.body ++ Ag a.epoch ++ num a.wraps.length
theorem Zdv (a : Ac.Act) : Gz a = Ie a ++ (a.wraps.map B2).flatten ++ Ag a.n ++ Ag a.m := by
 unfold Gz Ie;simp only [List.append_assoc]
theorem PA (a : Ac.Act) (h : Sz a) : AC prog 102 [As a] [] (.st (AM a)) [] := by
 refine Ai [69, 77, 80, 161, 162] [] func102 ?_;unfold AM;refine run ?_;refine cp (G2 a h) ?_;cases hr : Ac.right a with
 | false => rw [if_neg (by simp)]; refine run ?_; exact Ab
 | true =>
  rw [if_pos rfl];have sm := C0 hr;have hto : a.to.length ≤ 1000000 := by have := sm.to; omega
  have htx : ∀ x ∈ a.to, x.length ≤ 1000000 := fun x hx => by have := sm.to.2 x hx; omega
  have q1 := AG (s := FL) (by simp)
  have k1 := Bq FL (by simp)
  have q2 := AG (s := a.author) (by have := sm.author; omega)
  have k2 := Bq a.author (by have := sm.author; omega)
  have q3 := Aj a.seq (by have := sm.seq; omega)
  have k3 := AL a.seq (by have := sm.seq; omega)
  have q4 := AG (s := a.prev) (by have := sm.prev; omega)
  have k4 := Bq a.prev (by have := sm.prev; omega)
  have q5 := Aj a.kind (by have := sm.kind; omega)
  have k5 := AL a.kind (by have := sm.kind; omega)
  have q6 := Aj a.time (by have := sm.time; omega)
  have k6 := AL a.time (by have := sm.time; omega)
  have q7 := AG (s := a.object) (by have := sm.object; omega)
  have k7 := Bq a.object (by have := sm.object; omega)
  have q8 := AG (s := a.target) (by have := sm.target; omega)
  have k8 := Bq a.target (by have := sm.target; omega)
  have q9 := Aj a.scope (by have := sm.scope; omega)
  have k9 := AL a.scope (by have := sm.scope; omega)
  have q10 := AG (s := a.group) (by have := sm.group; omega)
  have k10 := Bq a.group (by have := sm.group; omega)
  have q11 := OV (l := a.to) hto htx;have k11 := Ps a.to hto htx;have q12 := AG (s := a.text) (by have := sm.text; omega)
  have k12 := Bq a.text (by have := sm.text; omega)
  have q13 := Lx a.body (by have := sm.body; omega)
  have k13 := T2 a.body (by have := sm.body; omega)
  have q14 := Aj a.epoch (by have := sm.epoch; omega)
  have k14 := AL a.epoch (by have := sm.epoch; omega)
  have q15 := DM (n := a.wraps.length) (by have := sm.wraps; omega)
  have k15 := AL (a.wraps.length : Int) (by have := sm.wraps; omega)
  rw [GT] at k15;have q16 := Aj a.n (by have := sm.n; omega)
  have k16 := AL a.n (by have := sm.n; omega)
  have q17 := Aj a.m (by have := sm.m; omega)
  have k17 := AL a.m (by have := sm.m; omega)
  have hwr := sm.wraps;have hlp : (Ie a).length ≤ 2000000000000 := by
   unfold Ie;simp only [List.length_append];omega
  rw [Zdv];have hsz : Ax 5 (a.wraps.map Ba) = true := Bh 5 Ba (fun _ => rfl) _
  clear hr sm h;refine run ?_;refine cp k1 ?_;refine run ?_;refine cp k2 ?_;refine run ?_;refine cp k3 ?_;refine run ?_;refine cp k4 ?_;refine run ?_;refine cp k5 ?_;refine run ?_;refine cp k6 ?_;refine run ?_;refine cp k7 ?_;refine run ?_;refine cp k8 ?_;refine run ?_;refine cp k9 ?_;refine run ?_;refine cp k10 ?_;refine run ?_;refine cp k11 ?_;refine run ?_;refine cp k12 ?_;refine run ?_;refine cp k13 ?_;refine run ?_;refine cp k14 ?_;refine run ?_;refine cp k15 ?_;refine run ?_;refine AF (fun m e S => e 1 = .ptr 0 0 ∧ ∃ (k : Nat), e 5 = .it .i64 (k : Int) ∧ e 4 = .st (Ie a ++ ((a.wraps.take k).map B2).flatten) ∧ S = [.cells (FE a)] ∧ k ≤ a.wraps.length ∧ m = a.wraps.length - k) a.wraps.length
   ⟨Ad, 0, Ad, by rw [List.take_zero, List.map_nil, List.flatten_nil, List.append_nil]; exact Ad, rfl, by omega, rfl⟩ ?_
  clear k1 k2 k3 k4 k5 k6 k7 k8 k9 k10 k11 k12 k13 k14 k15;clear q1 q2 q3 q4 q5 q6 q7 q8 q9 q10 q11 q12 q13 q14 q15;rintro m e S ⟨s1, k, s5, s4, rfl, hk, rfl⟩
  have hlen := Qr hwr.2 hwr.1 k;by_cases hlt : k < a.wraps.length
  rotate_left
  ·obtain rfl : k = a.wraps.length := by omega
   rw [List.take_length] at s4 hlen;have hx : ¬ ((a.wraps.length : Nat) : Int) < (a.wraps.length : Int) := by omega
   generalize (a.wraps.map B2).flatten = z at *;generalize Ie a = p at *;refine Aa (A4 @s1 @s5 @s4 @hx) ?_;refine cp k16 ?_;refine Aa (A3 @s1 @s5 @s4) ?_;refine cp k17 ?_;refine Aa (A3 @s1 @s5 @s4) ?_;exact Ab
  have hg : a.wraps[k]? = some a.wraps[k] := List.getElem?_eq_getElem hlt
  have hx := hwr.2 a.wraps[k] (List.getElem_mem hlt);have hstep : ((a.wraps.take (k + 1)).map B2).flatten = ((a.wraps.take k).map B2).flatten ++ B2 a.wraps[k] := by
   rw [List.take_succ_eq_append_getElem hlt, List.map_append, List.flatten_append];congr 1
   exact List.append_nil _
  generalize a.wraps[k] = x at *;have hx' := LP hx;have hbl := Lx x.box hx'.2.2;have hn1 := Aj x.to (by omega)
  have hn2 := Aj x.eph (by omega)
  generalize ((a.wraps.take k).map B2).flatten = z at *;generalize Ie a = p at *;have hwl := hwr.1;clear k16 k17 q16 q17 hwr;refine Aa (A5 @s1 @s5 @s4 @hg @hsz) ?_;refine cp (AL x.to (by omega)) ?_
  refine Aa (A5 @s1 @s5 @s4 @hg @hsz) ?_;refine cp (AL x.eph (by omega)) ?_
  refine Aa (A5 @s1 @s5 @s4 @hg @hsz) ?_;refine cp (T2 x.box hx'.2.2) ?_;refine Aa (A3 @s1 @s5 @s4) ?_;exact Ao (a.wraps.length - (k + 1)) (by omega) ⟨Ad, k + 1, Ad, by rw [hstep]; unfold B2; simp only [List.append_assoc]; exact Ad, rfl, by omega, rfl⟩
theorem PN (a : Ac.Act) (hr : Ac.right a = true) : AM a ≠ [] := by
 unfold AM Gz;rw [if_pos hr]
 have : (text FL).length = 4 := rfl;intro e;have := congrArg List.length e;simp only [List.length_append, List.length_nil] at this;omega
theorem Zcp (a : Ac.Act) (h : Sz a) : AC prog 234 [As a] [] (.st (Ac.bytes a)) [] := by
 refine Ai [102, 80] [] func234 ?_;refine run ?_;refine cp (PA a h) ?_;cases hr : Ac.right a with
 | false =>
  have h0 : AM a = [] := by unfold AM; rw [hr]; rfl
  have h1 : Ac.bytes a = [] := by unfold Ac.bytes; rw [hr]; rfl
  rw [h1, h0];refine run ?_;exact Ab
 | true =>
  have hne := PN a hr;have hl := PO (a := a);have h1 : Ac.bytes a = AM a ++ Ag a.sig.e ++ Ag a.sig.s := by unfold Ac.bytes AM; rw [if_pos hr, if_pos hr]
  have sm := (C0 hr).sig;simp only [AI, Bool.and_eq_true, Bb] at sm;rw [h1];have hq : (AM a == []) = false := by simpa using hne
  have n1 := Aj a.sig.e (by omega)
  have n2 := Aj a.sig.s (by omega)
  generalize AM a = c at *;refine Aa @hq ?_;refine cp (AL a.sig.e (by omega)) ?_
  refine run ?_;refine cp (AL a.sig.s (by omega)) ?_
  refine run ?_;exact Ab
end Pe
end
section
namespace Pe
open Tryz
open Go Go.RowKit Co Sg Ac
set_option maxRecDepth 100000
set_option maxHeartbeats 4000000
theorem Ay.reserveK [Tab] (N0 : Nat) {e : Af} {S : Ae} (l i : Nat) {cs es : List AV} (hS : S[l]? = some (.cells cs)) (hi : cs[i]? = some (.sl .full es)) (ty : TypeId) (sz : Nat) : Ay N0 e S e (S.set l (.cells (cs.set i (.sl (.own S.length) es))) ++ [.buf es.length ty sz]) := by
 rintro N w0 g0 a w hn ⟨h1, h2, g, h3, h4, h5⟩
 obtain ⟨g', h6, h7, h8, h9, h10⟩ := h3.reserve es.length ty sz;have hlS := (List.getElem?_eq_some_iff.1 hS).1
 have hic := (List.getElem?_eq_some_iff.1 hi).1
 have hn3 := h3.nid;have hn6 := h6.nid;rw [List.length_append, List.length_singleton] at hn6;refine ⟨h1, h2, g', ⟨by rw [List.length_append, List.length_set, List.length_singleton]; exact hn6, fun k o hk => ?_, h6.disj, h6.lt, h6.tab⟩, fun t => (h4 t).le h7.toLe, h5.trans h7⟩
 by_cases hkl : k = l
 ·subst hkl
  rw [List.getElem?_append_left (by rw [List.length_set]; exact hlS), List.getElem?_set_self hlS] at hk
  cases hk
  obtain ⟨k1, k2, k3, arr, T, fr, k4, k5, k6, k7, k8⟩ := h6.obj k (.cells cs) (Ll hS _);refine ⟨k1, k2, k3, arr, T, fr, k4, k5, by rw [List.length_set]; exact k6, k7, fun j u v hu hv => ?_⟩
  by_cases hj : j = i
  ·subst hj
   rw [List.getElem?_set_self hic] at hu
   cases hu
   refine (k8 j _ v hi hv).own_full (by omega) ?_ ?_
   ·rw [← hn3]; exact h9
   ·rw [← hn3]; exact h10
  ·rw [List.getElem?_set_ne (Ne.symm hj)] at hu
   exact k8 j u v hu hv
 ·refine h6.obj k o ?_
  by_cases hkS : k < S.length
  ·rw [List.getElem?_append_left (by rw [List.length_set]; exact hkS), List.getElem?_set_ne (Ne.symm hkl)] at hk
   rw [List.getElem?_append_left hkS]
   exact hk
  ·rw [List.getElem?_append_right (by rw [List.length_set]; omega), List.length_set] at hk
   rw [List.getElem?_append_right (by omega)]
   exact hk
theorem TE (k : Int) : AC prog 233 [.it .i64 k] [] (.bo (EI k)) [] := by
 refine Ar [] [] func233 ?_;by_cases c1 : 1 ≤ k
 ·by_cases c2 : k ≤ 3
  ·have hp : EI k = true := by
    unfold EI;simp only [Bool.or_eq_true, decide_eq_true_eq];omega
   rw [hp];refine Aa (an @c1 @c2) ?_;exact Ab
  ·have hp : EI k = false := by
    unfold EI;simp only [Bool.or_eq_false_iff, decide_eq_false_iff_not];omega
   rw [hp];refine Aa (an @c1 @c2) ?_;exact Ab
 ·have hp : EI k = false := by
   unfold EI;simp only [Bool.or_eq_false_iff, decide_eq_false_iff_not];omega
  rw [hp];refine Aa @c1 ?_;exact Ab
theorem M1 (p : Int) (a : Ac.Act) (h : Sz a) (hp : -9223372036854775808 ≤ p ∧ p ≤ 9223372036854775807) : AC prog 71 [.it .i64 p, As a] [] (.bo (C7 p a)) [] := by
 refine Ar [69, 102, 138] [] func71 ?_;unfold C7;have hl := Nj (a := a);refine run ?_;refine cp (G2 a h) ?_;cases hr : right a with
 | false => refine run ?_; exact Ab
 | true =>
  have hs := (C0 hr).sig;simp only [AI, Bool.and_eq_true, Bb] at hs;refine run ?_;refine cp (PA a h) ?_;refine run ?_;refine cp (YS p (AM a) a.sig (by omega)) ?_
  refine run ?_;exact Ab
theorem Lm (k : Key) (a : Ac.Act) (h : Sz a) (t1 : a.to.length ≤ 1000000) (t2 : a.wraps.length ≤ 1000000) (hk : -9223372036854775808 ≤ k.secret ∧ k.secret ≤ 9223372036854775807) : AC prog 50 [Ea k, As a] [] (As (BI k a)) [] := by
 refine Ar [69, 33, 102, 34] [] func50 ?_;have h0 : Sz { a with sig := Bl } := ⟨h.author, h.target, h.group, h.text, h.tos, h.to, h.wraps⟩
 unfold BI;simp only
 have hl := Nj (a := { a with sig := Bl })
 have z1 : Ax 1 (a.to.map AV.st) = true := Bh 1 AV.st (fun _ => rfl) _
 have z2 : Ax 5 (a.wraps.map Ba) = true := Bh 5 Ba (fun _ => rfl) _
 have f1 : CN a.to.length 16 = true := by simp [CN]; omega
 have f2 : ∀ b, b ≤ 1000 → CN a.wraps.length b = true := fun b hb => by
  have : a.wraps.length * b ≤ 1000000 * 1000 := Nat.mul_le_mul t2 hb;simp [CN]; omega
 refine Aa (A4 @z1 @z2 @f1 @f2) ?_;refine cp (G2 { a with sig := Bl } h0) ?_
 refine run ?_;refine cp (Mq k hk) ?_;cases hr : right { a with sig := Bl } with
 | false =>
  rw [if_neg (by simp)]
  refine run ?_;exact Am
 | true =>
  cases hkr : k.right with
  | false =>
   rw [if_neg (by simp)]
   refine run ?_;exact Am
  | true =>
   rw [if_pos (by rfl)]
   refine run ?_;refine cp (PA { a with sig := Bl } h0) ?_
   refine run ?_;refine cp (Rn k _ (by omega) hk) ?_
   refine run ?_;exact Am
end Pe
end
section
namespace Pe
open Tryz
open Go Go.RowKit Co Sg Ac It
set_option maxRecDepth 100000
set_option maxHeartbeats 4000000
theorem BX (n lo hi : Int) : AC prog 307 [.it .i64 n, .it .i64 lo, .it .i64 hi] [] (.bo (wi n lo hi)) [] := by
 refine Ai [] [] func307 ?_;unfold wi;by_cases h : lo ≤ n
 ·rw [decide_eq_true h]
  refine run ?_;exact Ab
 ·rw [decide_eq_false h]
  refine run ?_;exact Ab
theorem Pj (s : Sig) : AC prog 308 [GO s] [] (.bo (AI s)) [] := by
 refine Ai [307] [] func308 ?_;unfold AI;refine run ?_;refine cp (BX s.e 0 2305843009213693949) ?_;cases h : wi s.e 0 2305843009213693949 with
 | false =>
  refine run ?_;exact Ab
 | true =>
  refine run ?_;refine cp (BX s.s 0 2305843009213693949) ?_;refine run ?_;exact Ab
theorem Zcn (c : It.Claim) (ha : c.actor.length ≤ 140737488355328) : AC prog 239 [JD c] [] (.bo (D2 c)) [] := by
 refine Ai [135, 307, 308] [] func239 ?_;obtain ⟨q, hq⟩ : ∃ q, D2 c = q := ⟨_, rfl⟩
 rw [hq];unfold D2 at hq;refine run ?_;refine cp (DG c.actor ha) ?_;cases c0 : AD c.actor with
 | false =>
  obtain rfl : q = false := by rw [← hq, c0]; simp
  refine run ?_;refine cp (BX c.base 1 1073741824) ?_;cases n0 : wi c.base 1 1073741824 with
  | false =>
   refine run ?_;exact Ab
  | true =>
  refine run ?_;refine cp (BX c.gen 0 1073741824) ?_;cases n1 : wi c.gen 0 1073741824 with
  | false =>
   refine run ?_;exact Ab
  | true =>
  refine run ?_;refine cp (BX c.home 0 19) ?_;cases n2 : wi c.home 0 19 with
  | false =>
   refine run ?_;exact Ab
  | true =>
  refine run ?_;refine cp (BX c.pub 1 2305843009213693950) ?_;cases n3 : wi c.pub 1 2305843009213693950 with
  | false =>
   refine run ?_;exact Ab
  | true =>
  refine run ?_;refine cp (BX c.time 0 1099511627776) ?_;cases n4 : wi c.time 0 1099511627776 with
  | false =>
   refine run ?_;exact Ab
  | true =>
  refine run ?_;exact Ab
 | true =>
  refine run ?_;refine cp (BX c.base 1 1073741824) ?_;cases n0 : wi c.base 1 1073741824 with
  | false =>
   obtain rfl : q = false := by rw [← hq]; simp [n0, B4, isTime]
   refine run ?_;exact Ab
  | true =>
  refine run ?_;refine cp (BX c.gen 0 1073741824) ?_;cases n1 : wi c.gen 0 1073741824 with
  | false =>
   obtain rfl : q = false := by rw [← hq]; simp [n1, B4, isTime]
   refine run ?_;exact Ab
  | true =>
  refine run ?_;refine cp (BX c.home 0 19) ?_;cases n2 : wi c.home 0 19 with
  | false =>
   obtain rfl : q = false := by rw [← hq]; simp [n2, B4, isTime]
   refine run ?_;exact Ab
  | true =>
  refine run ?_;refine cp (BX c.pub 1 2305843009213693950) ?_;cases n3 : wi c.pub 1 2305843009213693950 with
  | false =>
   obtain rfl : q = false := by rw [← hq]; simp [n3, B4, isTime]
   refine run ?_;exact Ab
  | true =>
  refine run ?_;refine cp (BX c.time 0 1099511627776) ?_;cases n4 : wi c.time 0 1099511627776 with
  | false =>
   obtain rfl : q = false := by rw [← hq]; simp [n4, B4, isTime]
   refine run ?_;exact Ab
  | true =>
  have hd := C4 c.prev;cases cd : ((c.prev.length : Int) == 32) with
  | false =>
   obtain rfl : q = false := by rw [← hq, hd, cd]; simp
   refine Aa @cd ?_;exact Ab
  | true =>
  obtain rfl : q = AI c.sig := by rw [← hq, hd, cd]; simp [c0, n0, n1, n2, n3, n4, B4, isTime]
  refine Aa @cd ?_;refine cp (Pj c.sig) ?_;refine run ?_;exact Ab
theorem Zb0 (c : It.Ballot) (ha : c.actor.length ≤ 140737488355328) : AC prog 240 [PY c] [] (.bo (D3 c)) [] := by
 refine Ai [135, 307, 308] [] func240 ?_;obtain ⟨q, hq⟩ : ∃ q, D3 c = q := ⟨_, rfl⟩
 rw [hq];unfold D3 at hq;refine run ?_;refine cp (DG c.actor ha) ?_;cases c0 : AD c.actor with
 | false =>
  obtain rfl : q = false := by rw [← hq, c0]; simp
  refine run ?_;refine cp (BX c.server 0 19) ?_;cases n0 : wi c.server 0 19 with
  | false =>
   refine run ?_;exact Ab
  | true =>
  refine run ?_;refine cp (BX c.gen 0 1073741824) ?_;cases n1 : wi c.gen 0 1073741824 with
  | false =>
   refine run ?_;exact Ab
  | true =>
  refine run ?_;refine cp (BX c.time 0 1099511627776) ?_;cases n2 : wi c.time 0 1099511627776 with
  | false =>
   refine run ?_;exact Ab
  | true =>
  refine run ?_;exact Ab
 | true =>
  refine run ?_;refine cp (BX c.server 0 19) ?_;cases n0 : wi c.server 0 19 with
  | false =>
   obtain rfl : q = false := by rw [← hq]; simp [n0, B4, isTime]
   refine run ?_;exact Ab
  | true =>
  refine run ?_;refine cp (BX c.gen 0 1073741824) ?_;cases n1 : wi c.gen 0 1073741824 with
  | false =>
   obtain rfl : q = false := by rw [← hq]; simp [n1, B4, isTime]
   refine run ?_;exact Ab
  | true =>
  refine run ?_;refine cp (BX c.time 0 1099511627776) ?_;cases n2 : wi c.time 0 1099511627776 with
  | false =>
   obtain rfl : q = false := by rw [← hq]; simp [n2, B4, isTime]
   refine run ?_;exact Ab
  | true =>
  have hd := C4 c.claim;cases cd : ((c.claim.length : Int) == 32) with
  | false =>
   obtain rfl : q = false := by rw [← hq, hd, cd]; simp
   refine Aa @cd ?_;exact Ab
  | true =>
  obtain rfl : q = AI c.sig := by rw [← hq, hd, cd]; simp [c0, n0, n1, n2, B4, isTime]
  refine Aa @cd ?_;refine cp (Pj c.sig) ?_;refine run ?_;exact Ab
theorem XS (d : It.Decision) (h : wi d.kind 0 9 = false) : Ct d = false := by
 unfold Ct
 have : ¬ (0 ≤ d.kind ∧ d.kind ≤ 9) := fun e => by rw [Bb.2 e] at h; cases h
 rw [if_neg (by omega), if_neg (by omega), if_neg (by omega), if_neg (by omega)]
theorem Zcl (d : It.Decision) (ha : d.actor.length ≤ 140737488355328) (hts : ∀ s ∈ d.to, s.length ≤ 140737488355328) (htl : d.to.length ≤ 140737488355328) : AC prog 241 [G9 d] [] (.bo (D1 d)) [] := by
 refine Ai [135, 225, 307, 308] [] func241 ?_;obtain ⟨q, hq⟩ : ∃ q, D1 d = q := ⟨_, rfl⟩
 rw [hq];unfold D1 at hq;have hn := E3;have hl := Ir d.to;have hs := GP d.text;refine run ?_;refine cp (BX d.server 0 19) ?_;cases n0 : wi d.server 0 19 with
 | false =>
  obtain rfl : q = false := by rw [← hq]; simp [n0, B4, isTime]
  refine run ?_;exact Ab
 | true =>
 refine run ?_;refine cp (BX d.number 0 1073741824) ?_;cases n1 : wi d.number 0 1073741824 with
 | false =>
  obtain rfl : q = false := by rw [← hq]; simp [n1, B4, isTime]
  refine run ?_;exact Ab
 | true =>
 refine run ?_;refine cp (BX d.kind 0 9) ?_;cases n2 : wi d.kind 0 9 with
 | false =>
  obtain rfl : q = false := by rw [← hq]; simp [XS d n2]
  refine run ?_;exact Ab
 | true =>
 refine run ?_;refine cp (BX d.frm 0 1099511627776) ?_;cases n3 : wi d.frm 0 1099511627776 with
 | false =>
  obtain rfl : q = false := by rw [← hq]; simp [n3, B4, isTime]
  refine run ?_;exact Ab
 | true =>
 refine run ?_;refine cp (BX d.til 0 1099511627776) ?_;cases n4 : wi d.til 0 1099511627776 with
 | false =>
  obtain rfl : q = false := by rw [← hq]; simp [n4, B4, isTime]
  refine run ?_;exact Ab
 | true =>
 by_cases hft : d.frm < d.til
 rotate_left
 ·obtain rfl : q = false := by rw [← hq, decide_eq_false hft]; simp
  refine run ?_;exact Ab
 refine run ?_;refine cp (Pj d.sig) ?_;cases cs : AI d.sig with
 | false =>
  obtain rfl : q = false := by rw [← hq, cs]; simp
  refine run ?_;exact Ab
 | true =>
 have hk := Bb.1 n2;obtain rfl : q = Ct d := by rw [← hq, cs, decide_eq_true hft]; simp [n0, n1, n3, n4, B4, isTime]
 clear hq;obtain ⟨pl, hpl⟩ : ∃ pl, AK d = pl := ⟨_, rfl⟩
 have hks : d.kind = 0 ∨ d.kind = 1 ∨ d.kind = 2 ∨ d.kind = 3 ∨ d.kind = 4 ∨ d.kind = 5 ∨ d.kind = 6 ∨ d.kind = 7 ∨ d.kind = 8 ∨ d.kind = 9 := by omega
 rcases hks with hk | hk | hk | hk | hk | hk | hk | hk | hk | hk
 iterate 2
  ·have hv : Ct d = (AD d.actor && decide (d.object = []) && decide ((d.text.length : Int) ≤ 500) && AK d) := by
    unfold Ct;rw [if_pos (by omega), hs]
   rw [hv];cases ct : decide (d.to = []) with
   | false =>
    have hp : AK d = false := by unfold AK; rw [ct]; rfl
    rw [hp];refine Aa (A3 @hn @hl @ct) ?_;refine cp (DG d.actor ha) ?_;cases c0 : AD d.actor with
    | false =>
     refine Aa (A3 @hn @hl @ct) ?_;exact Ab
    | true =>
    cases c1 : decide (d.object = []) with
    | false =>
     refine Aa (A4 @hn @hl @ct @c1) ?_;exact Ab
    | true =>
    cases c2 : decide ((d.text.length : Int) ≤ 500) with
    | false =>
     refine Aa (A5 @hn @hl @c1 @ct @c2) ?_;exact Ab
    | true =>
    refine Aa (A5 @hn @hl @c1 @c2 @ct) ?_;exact Ab
   | true =>
   by_cases hN : d.n = 0
   ·have hp : AK d = true := by unfold AK; rw [ct, decide_eq_true hN]; rfl
    rw [hp];refine Aa (A3 @hn @hl @ct) ?_;refine cp (DG d.actor ha) ?_;cases c0 : AD d.actor with
    | false =>
     refine Aa (A3 @hn @hl @ct) ?_;exact Ab
    | true =>
    cases c1 : decide (d.object = []) with
    | false =>
     refine Aa (A4 @hn @hl @ct @c1) ?_;exact Ab
    | true =>
    cases c2 : decide ((d.text.length : Int) ≤ 500) with
    | false =>
     refine Aa (A5 @hn @hl @c1 @ct @c2) ?_;exact Ab
    | true =>
    refine Aa (A5 @hn @hl @c1 @c2 @ct) ?_;exact Ab
   ·have hp : AK d = false := by unfold AK; rw [decide_eq_false hN, Bool.and_false]
    rw [hp];refine Aa (A3 @hn @hl @ct) ?_;refine cp (DG d.actor ha) ?_;cases c0 : AD d.actor with
    | false =>
     refine Aa (A3 @hn @hl @ct) ?_;exact Ab
    | true =>
    cases c1 : decide (d.object = []) with
    | false =>
     refine Aa (A4 @hn @hl @ct @c1) ?_;exact Ab
    | true =>
    cases c2 : decide ((d.text.length : Int) ≤ 500) with
    | false =>
     refine Aa (A5 @hn @hl @c1 @ct @c2) ?_;exact Ab
    | true =>
    refine Aa (A5 @hn @hl @c1 @c2 @ct) ?_;exact Ab
 iterate 2
  ·have hv : Ct d = (decide (d.actor = []) && AP d.object && decide ((d.text.length : Int) ≤ 500) && AK d) := by
    unfold Ct;rw [if_neg (by omega), if_pos (by omega), hs]
   rw [hv];cases ct : decide (d.to = []) with
   | false =>
    have hp : AK d = false := by unfold AK; rw [ct]; rfl
    rw [hp];cases c0 : decide (d.actor = []) with
    | false =>
     refine Aa (A4 @hn @hl @ct @c0) ?_;exact Ab
    | true =>
    rw [C4];cases c1 : ((d.object.length : Int) == 32) with
    | false =>
     refine Aa (A5 @hn @hl @c0 @ct @c1) ?_;exact Ab
    | true =>
    cases c2 : decide ((d.text.length : Int) ≤ 500) with
    | false =>
     refine Aa (A6 @hn @hl @c0 @c1 @ct @c2) ?_;exact Ab
    | true =>
    refine Aa (A6 @hn @hl @c0 @c1 @c2 @ct) ?_;exact Ab
   | true =>
   by_cases hN : d.n = 0
   ·have hp : AK d = true := by unfold AK; rw [ct, decide_eq_true hN]; rfl
    rw [hp];cases c0 : decide (d.actor = []) with
    | false =>
     refine Aa (A4 @hn @hl @ct @c0) ?_;exact Ab
    | true =>
    rw [C4];cases c1 : ((d.object.length : Int) == 32) with
    | false =>
     refine Aa (A5 @hn @hl @c0 @ct @c1) ?_;exact Ab
    | true =>
    cases c2 : decide ((d.text.length : Int) ≤ 500) with
    | false =>
     refine Aa (A6 @hn @hl @c0 @c1 @ct @c2) ?_;exact Ab
    | true =>
    refine Aa (A6 @hn @hl @c0 @c1 @c2 @ct) ?_;exact Ab
   ·have hp : AK d = false := by unfold AK; rw [decide_eq_false hN, Bool.and_false]
    rw [hp];cases c0 : decide (d.actor = []) with
    | false =>
     refine Aa (A4 @hn @hl @ct @c0) ?_;exact Ab
    | true =>
    rw [C4];cases c1 : ((d.object.length : Int) == 32) with
    | false =>
     refine Aa (A5 @hn @hl @c0 @ct @c1) ?_;exact Ab
    | true =>
    cases c2 : decide ((d.text.length : Int) ≤ 500) with
    | false =>
     refine Aa (A6 @hn @hl @c0 @c1 @ct @c2) ?_;exact Ab
    | true =>
    refine Aa (A6 @hn @hl @c0 @c1 @c2 @ct) ?_;exact Ab
 ·have hv : Ct d = (AD d.actor && decide (d.object = []) && decide ((d.text.length : Int) ≤ 500) && AK d) := by
   unfold Ct;rw [if_pos (by omega), hs]
  rw [hv];cases ct : decide (d.to = []) with
  | false =>
   have hp : AK d = false := by unfold AK; rw [ct]; rfl
   rw [hp];refine Aa (A3 @hn @hl @ct) ?_;refine cp (DG d.actor ha) ?_;cases c0 : AD d.actor with
   | false =>
    refine Aa (A3 @hn @hl @ct) ?_;exact Ab
   | true =>
   cases c1 : decide (d.object = []) with
   | false =>
    refine Aa (A4 @hn @hl @ct @c1) ?_;exact Ab
   | true =>
   cases c2 : decide ((d.text.length : Int) ≤ 500) with
   | false =>
    refine Aa (A5 @hn @hl @c1 @ct @c2) ?_;exact Ab
   | true =>
   refine Aa (A5 @hn @hl @c1 @c2 @ct) ?_;exact Ab
  | true =>
  by_cases hN : d.n = 0
  ·have hp : AK d = true := by unfold AK; rw [ct, decide_eq_true hN]; rfl
   rw [hp];refine Aa (A3 @hn @hl @ct) ?_;refine cp (DG d.actor ha) ?_;cases c0 : AD d.actor with
   | false =>
    refine Aa (A3 @hn @hl @ct) ?_;exact Ab
   | true =>
   cases c1 : decide (d.object = []) with
   | false =>
    refine Aa (A4 @hn @hl @ct @c1) ?_;exact Ab
   | true =>
   cases c2 : decide ((d.text.length : Int) ≤ 500) with
   | false =>
    refine Aa (A5 @hn @hl @c1 @ct @c2) ?_;exact Ab
   | true =>
   refine Aa (A5 @hn @hl @c1 @c2 @ct) ?_;exact Ab
  ·have hp : AK d = false := by unfold AK; rw [decide_eq_false hN, Bool.and_false]
   rw [hp];refine Aa (A3 @hn @hl @ct) ?_;refine cp (DG d.actor ha) ?_;cases c0 : AD d.actor with
   | false =>
    refine Aa (A3 @hn @hl @ct) ?_;exact Ab
   | true =>
   cases c1 : decide (d.object = []) with
   | false =>
    refine Aa (A4 @hn @hl @ct @c1) ?_;exact Ab
   | true =>
   cases c2 : decide ((d.text.length : Int) ≤ 500) with
   | false =>
    refine Aa (A5 @hn @hl @c1 @ct @c2) ?_;exact Ab
   | true =>
   refine Aa (A5 @hn @hl @c1 @c2 @ct) ?_;exact Ab
 ·have hv : Ct d = (decide (d.actor = []) && AP d.object && decide ((d.text.length : Int) ≤ 500) && AK d) := by
   unfold Ct;rw [if_neg (by omega), if_pos (by omega), hs]
  rw [hv];cases ct : decide (d.to = []) with
  | false =>
   have hp : AK d = false := by unfold AK; rw [ct]; rfl
   rw [hp];cases c0 : decide (d.actor = []) with
   | false =>
    refine Aa (A4 @hn @hl @ct @c0) ?_;exact Ab
   | true =>
   rw [C4];cases c1 : ((d.object.length : Int) == 32) with
   | false =>
    refine Aa (A5 @hn @hl @c0 @ct @c1) ?_;exact Ab
   | true =>
   cases c2 : decide ((d.text.length : Int) ≤ 500) with
   | false =>
    refine Aa (A6 @hn @hl @c0 @c1 @ct @c2) ?_;exact Ab
   | true =>
   refine Aa (A6 @hn @hl @c0 @c1 @c2 @ct) ?_;exact Ab
  | true =>
  by_cases hN : d.n = 0
  ·have hp : AK d = true := by unfold AK; rw [ct, decide_eq_true hN]; rfl
   rw [hp];cases c0 : decide (d.actor = []) with
   | false =>
    refine Aa (A4 @hn @hl @ct @c0) ?_;exact Ab
   | true =>
   rw [C4];cases c1 : ((d.object.length : Int) == 32) with
   | false =>
    refine Aa (A5 @hn @hl @c0 @ct @c1) ?_;exact Ab
   | true =>
   cases c2 : decide ((d.text.length : Int) ≤ 500) with
   | false =>
    refine Aa (A6 @hn @hl @c0 @c1 @ct @c2) ?_;exact Ab
   | true =>
   refine Aa (A6 @hn @hl @c0 @c1 @c2 @ct) ?_;exact Ab
  ·have hp : AK d = false := by unfold AK; rw [decide_eq_false hN, Bool.and_false]
   rw [hp];cases c0 : decide (d.actor = []) with
   | false =>
    refine Aa (A4 @hn @hl @ct @c0) ?_;exact Ab
   | true =>
   rw [C4];cases c1 : ((d.object.length : Int) == 32) with
   | false =>
    refine Aa (A5 @hn @hl @c0 @ct @c1) ?_;exact Ab
   | true =>
   cases c2 : decide ((d.text.length : Int) ≤ 500) with
   | false =>
    refine Aa (A6 @hn @hl @c0 @c1 @ct @c2) ?_;exact Ab
   | true =>
   refine Aa (A6 @hn @hl @c0 @c1 @c2 @ct) ?_;exact Ab
 iterate 2
  ·have hv : Ct d = (AD d.actor && decide (d.object = []) && decide ((d.text.length : Int) ≤ 500) && AK d) := by
    unfold Ct;rw [if_pos (by omega), hs]
   rw [hv];cases ct : decide (d.to = []) with
   | false =>
    have hp : AK d = false := by unfold AK; rw [ct]; rfl
    rw [hp];refine Aa (A3 @hn @hl @ct) ?_;refine cp (DG d.actor ha) ?_;cases c0 : AD d.actor with
    | false =>
     refine Aa (A3 @hn @hl @ct) ?_;exact Ab
    | true =>
    cases c1 : decide (d.object = []) with
    | false =>
     refine Aa (A4 @hn @hl @ct @c1) ?_;exact Ab
    | true =>
    cases c2 : decide ((d.text.length : Int) ≤ 500) with
    | false =>
     refine Aa (A5 @hn @hl @c1 @ct @c2) ?_;exact Ab
    | true =>
    refine Aa (A5 @hn @hl @c1 @c2 @ct) ?_;exact Ab
   | true =>
   by_cases hN : d.n = 0
   ·have hp : AK d = true := by unfold AK; rw [ct, decide_eq_true hN]; rfl
    rw [hp];refine Aa (A3 @hn @hl @ct) ?_;refine cp (DG d.actor ha) ?_;cases c0 : AD d.actor with
    | false =>
     refine Aa (A3 @hn @hl @ct) ?_;exact Ab
    | true =>
    cases c1 : decide (d.object = []) with
    | false =>
     refine Aa (A4 @hn @hl @ct @c1) ?_;exact Ab
    | true =>
    cases c2 : decide ((d.text.length : Int) ≤ 500) with
    | false =>
     refine Aa (A5 @hn @hl @c1 @ct @c2) ?_;exact Ab
    | true =>
    refine Aa (A5 @hn @hl @c1 @c2 @ct) ?_;exact Ab
   ·have hp : AK d = false := by unfold AK; rw [decide_eq_false hN, Bool.and_false]
    rw [hp];refine Aa (A3 @hn @hl @ct) ?_;refine cp (DG d.actor ha) ?_;cases c0 : AD d.actor with
    | false =>
     refine Aa (A3 @hn @hl @ct) ?_;exact Ab
    | true =>
    cases c1 : decide (d.object = []) with
    | false =>
     refine Aa (A4 @hn @hl @ct @c1) ?_;exact Ab
    | true =>
    cases c2 : decide ((d.text.length : Int) ≤ 500) with
    | false =>
     refine Aa (A5 @hn @hl @c1 @ct @c2) ?_;exact Ab
    | true =>
    refine Aa (A5 @hn @hl @c1 @c2 @ct) ?_;exact Ab
 ·have hv : Ct d = (decide (d.actor = []) && decide (d.object = []) && decide ((d.text.length : Int) ≤ 500) && BR d.to && wi d.n 1 d.to.length) := by
   unfold Ct;rw [if_neg (by omega), if_neg (by omega), if_pos (by omega), hs]
  rw [hv];cases ct : decide (d.to = []) with
  | false =>
   refine Aa (A3 @hn @hl @ct) ?_;refine cp (JB d.to hts htl) ?_;cases c0 : BR d.to with
   | false =>
    cases c1 : decide (d.actor = []) with
    | false =>
     refine Aa (A4 @hn @hl @ct @c1) ?_;exact Ab
    | true =>
    cases c2 : decide (d.object = []) with
    | false =>
     refine Aa (A5 @hn @hl @ct @c1 @c2) ?_;exact Ab
    | true =>
    cases c3 : decide ((d.text.length : Int) ≤ 500) with
    | false =>
     refine Aa (A6 @hn @hl @ct @c1 @c2 @c3) ?_;exact Ab
    | true =>
    refine Aa (A6 @hn @hl @ct @c1 @c2 @c3) ?_;exact Ab
   | true =>
    cases c1 : decide (d.actor = []) with
    | false =>
     refine Aa (A4 @hn @hl @ct @c1) ?_;exact Ab
    | true =>
    cases c2 : decide (d.object = []) with
    | false =>
     refine Aa (A5 @hn @hl @ct @c1 @c2) ?_;exact Ab
    | true =>
    cases c3 : decide ((d.text.length : Int) ≤ 500) with
    | false =>
     refine Aa (A6 @hn @hl @ct @c1 @c2 @c3) ?_;exact Ab
    | true =>
    refine Aa (A6 @hn @hl @ct @c1 @c2 @c3) ?_;refine cp (BX d.n 1 d.to.length) ?_;refine run ?_;exact Ab
  | true =>
  by_cases hN : d.n = 0
  iterate 2
   ·skip
    refine Aa (A3 @hn @hl @ct) ?_;refine cp (JB d.to hts htl) ?_;cases c0 : BR d.to with
    | false =>
     cases c1 : decide (d.actor = []) with
     | false =>
      refine Aa (A4 @hn @hl @ct @c1) ?_;exact Ab
     | true =>
     cases c2 : decide (d.object = []) with
     | false =>
      refine Aa (A5 @hn @hl @ct @c1 @c2) ?_;exact Ab
     | true =>
     cases c3 : decide ((d.text.length : Int) ≤ 500) with
     | false =>
      refine Aa (A6 @hn @hl @ct @c1 @c2 @c3) ?_;exact Ab
     | true =>
     refine Aa (A6 @hn @hl @ct @c1 @c2 @c3) ?_;exact Ab
    | true =>
     cases c1 : decide (d.actor = []) with
     | false =>
      refine Aa (A4 @hn @hl @ct @c1) ?_;exact Ab
     | true =>
     cases c2 : decide (d.object = []) with
     | false =>
      refine Aa (A5 @hn @hl @ct @c1 @c2) ?_;exact Ab
     | true =>
     cases c3 : decide ((d.text.length : Int) ≤ 500) with
     | false =>
      refine Aa (A6 @hn @hl @ct @c1 @c2 @c3) ?_;exact Ab
     | true =>
     refine Aa (A6 @hn @hl @ct @c1 @c2 @c3) ?_;refine cp (BX d.n 1 d.to.length) ?_;refine run ?_;exact Ab
 ·have hv : Ct d = (decide (d.actor = []) && decide (d.object = []) && decide ((d.text.length : Int) ≤ 4096) && AK d) := by
   unfold Ct;rw [if_neg (by omega), if_neg (by omega), if_neg (by omega), if_pos (by omega), show decide (d.text.length ≤ 4096) = decide ((d.text.length : Int) ≤ 4096) by rw [Bool.eq_iff_iff]; simp only [decide_eq_true_eq]; omega]
  rw [hv];cases ct : decide (d.to = []) with
  | false =>
   have hp : AK d = false := by unfold AK; rw [ct]; rfl
   rw [hp];cases c0 : decide (d.actor = []) with
   | false =>
    refine Aa (A4 @hn @hl @ct @c0) ?_;exact Ab
   | true =>
   cases c1 : decide (d.object = []) with
   | false =>
    refine Aa (A5 @hn @hl @c0 @ct @c1) ?_;exact Ab
   | true =>
   cases c2 : decide ((d.text.length : Int) ≤ 4096) with
   | false =>
    refine Aa (A6 @hn @hl @c0 @c1 @ct @c2) ?_;exact Ab
   | true =>
   refine Aa (A6 @hn @hl @c0 @c1 @c2 @ct) ?_;exact Ab
  | true =>
  by_cases hN : d.n = 0
  ·have hp : AK d = true := by unfold AK; rw [ct, decide_eq_true hN]; rfl
   rw [hp];cases c0 : decide (d.actor = []) with
   | false =>
    refine Aa (A4 @hn @hl @ct @c0) ?_;exact Ab
   | true =>
   cases c1 : decide (d.object = []) with
   | false =>
    refine Aa (A5 @hn @hl @c0 @ct @c1) ?_;exact Ab
   | true =>
   cases c2 : decide ((d.text.length : Int) ≤ 4096) with
   | false =>
    refine Aa (A6 @hn @hl @c0 @c1 @ct @c2) ?_;exact Ab
   | true =>
   refine Aa (A6 @hn @hl @c0 @c1 @c2 @ct) ?_;exact Ab
  ·have hp : AK d = false := by unfold AK; rw [decide_eq_false hN, Bool.and_false]
   rw [hp];cases c0 : decide (d.actor = []) with
   | false =>
    refine Aa (A4 @hn @hl @ct @c0) ?_;exact Ab
   | true =>
   cases c1 : decide (d.object = []) with
   | false =>
    refine Aa (A5 @hn @hl @c0 @ct @c1) ?_;exact Ab
   | true =>
   cases c2 : decide ((d.text.length : Int) ≤ 4096) with
   | false =>
    refine Aa (A6 @hn @hl @c0 @c1 @ct @c2) ?_;exact Ab
   | true =>
   refine Aa (A6 @hn @hl @c0 @c1 @c2 @ct) ?_;exact Ab
theorem ZdI (c : It.Claim) : (c.actor == [] && (c.base == 0 && (c.prev == [] && (c.gen == 0 && (c.home == 0 && (c.pub == 0 && (c.time == 0 && (c.sig.e == 0 && c.sig.s == 0)))))))) = decide (c = C5) := by
 obtain ⟨a, b, p, g, h, u, t, ⟨x, y⟩⟩ := c;rw [Bool.eq_iff_iff];simp [C5, Bl]
theorem Zef (c : It.Ballot) : (c.server == 0 && (c.actor == [] && (c.gen == 0 && (c.claim == [] && (c.time == 0 && (c.sig.e == 0 && c.sig.s == 0)))))) = decide (c = Dv) := by
 obtain ⟨s, a, g, h, t, ⟨x, y⟩⟩ := c;rw [Bool.eq_iff_iff];simp [Dv, Bl]
theorem TC (i : It.Item) (h : Iz i) : AC prog 141 [AN i] [] (.bo (It.right i)) [] := by
 refine Ai [99, 100, 69, 239, 240, 241] [] func141 ?_;have lz := h.lz;have k1 := TA i.act Au ⟨lz.to, lz.wraps⟩ ⟨by decide, by decide⟩
 have k4 := Tz i.decision Dr lz.dto (by decide)
 have e1 := ZdI i.claim;have e2 := Zef i.ballot;refine run ?_;refine cp k1 ?_;refine Aa (an @e1 @e2) ?_;refine cp k4 ?_;by_cases h0 : i.kind = 0
 ·have hv : It.right i = (Ac.right i.act && decide (i.claim = C5) && decide (i.ballot = Dv) && decide (i.decision = Dr)) := by
   rw [Bool.eq_iff_iff, It.right_act h0];simp [and_assoc]
  rw [hv];refine run ?_;refine cp (G2 i.act h.act) ?_;cases c0 : Ac.right i.act with
  | false =>
   refine run ?_;exact Ab
  | true =>
  cases d1 : decide (i.claim = C5) with
  | false =>
   refine run ?_;exact Ab
  | true =>
  cases d2 : decide (i.ballot = Dv) with
  | false =>
   refine run ?_;exact Ab
  | true =>
  cases d3 : decide (i.decision = Dr) with
  | false =>
   refine run ?_;exact Ab
  | true =>
  refine run ?_;exact Ab
 by_cases h1 : i.kind = 1
 ·have hv : It.right i = (D2 i.claim && decide (i.act = Au) && decide (i.ballot = Dv) && decide (i.decision = Dr)) := by
   rw [Bool.eq_iff_iff, It.right_claim h1];simp [and_assoc]
  rw [hv];refine run ?_;refine cp (Zcn i.claim h.claim) ?_;cases c0 : D2 i.claim with
  | false =>
   refine run ?_;exact Ab
  | true =>
  cases d0 : decide (i.act = Au) with
  | false =>
   refine run ?_;exact Ab
  | true =>
  cases d2 : decide (i.ballot = Dv) with
  | false =>
   refine run ?_;exact Ab
  | true =>
  cases d3 : decide (i.decision = Dr) with
  | false =>
   refine run ?_;exact Ab
  | true =>
  refine run ?_;exact Ab
 by_cases h2 : i.kind = 2
 ·have hv : It.right i = (D3 i.ballot && decide (i.act = Au) && decide (i.claim = C5) && decide (i.decision = Dr)) := by
   rw [Bool.eq_iff_iff, It.right_ballot h2];simp [and_assoc]
  rw [hv];refine run ?_;refine cp (Zb0 i.ballot h.ballot) ?_;cases c0 : D3 i.ballot with
  | false =>
   refine run ?_;exact Ab
  | true =>
  cases d0 : decide (i.act = Au) with
  | false =>
   refine run ?_;exact Ab
  | true =>
  cases d1 : decide (i.claim = C5) with
  | false =>
   refine run ?_;exact Ab
  | true =>
  cases d3 : decide (i.decision = Dr) with
  | false =>
   refine run ?_;exact Ab
  | true =>
  refine run ?_;exact Ab
 by_cases h3 : i.kind = 3
 ·have hv : It.right i = (D1 i.decision && decide (i.act = Au) && decide (i.claim = C5) && decide (i.ballot = Dv)) := by
   rw [Bool.eq_iff_iff, It.right_decision h3];simp [and_assoc]
  rw [hv];refine run ?_;refine cp (Zcl i.decision h.decision.actor h.decision.tos h.decision.to) ?_;cases c0 : D1 i.decision with
  | false =>
   refine run ?_;exact Ab
  | true =>
  cases d0 : decide (i.act = Au) with
  | false =>
   refine run ?_;exact Ab
  | true =>
  cases d1 : decide (i.claim = C5) with
  | false =>
   refine run ?_;exact Ab
  | true =>
  cases d2 : decide (i.ballot = Dv) with
  | false =>
   refine run ?_;exact Ab
  | true =>
  refine run ?_;exact Ab
 ·have hv : It.right i = false := by
   cases hr : It.right i with
   | false => rfl
   | true => rcases It.right_kind hr with e | e | e | e <;> contradiction
  rw [hv];refine run ?_;exact Ab
theorem Pk (s : Sig) (h : (0 ≤ s.e ∧ s.e ≤ 2305843009213693949) ∧ 0 ≤ s.s ∧ s.s ≤ 2305843009213693949) : AC prog 236 [GO s] [] (.st (Ag s.e ++ Ag s.s)) [] := by
 refine Ai [80] [] func236 ?_;have n1 := Aj s.e (by omega)
 have n2 := Aj s.s (by omega)
 refine run ?_;refine cp (AL s.e (by omega)) ?_
 refine run ?_;refine cp (AL s.s (by omega)) ?_
 refine run ?_;exact Ab
theorem T1 (i : It.Item) (h : Iz i) : AC prog 140 [AN i] [] (.st (It.bytes i)) [] := by
 refine Ai [141, 80, 234, 235, 237, 238, 236] [] func140 ?_;have kr := TC i h;cases hr : It.right i with
 | false =>
  rw [hr] at kr;rw [It.bytes_wrong hr];refine run ?_;refine cp kr ?_;refine run ?_;exact Ab
 | true =>
 rw [hr] at kr;have h3 := Je hr;have hkk := It.right_kind hr;have hl0 := Aj i.kind (by omega)
 have kn := AL i.kind (by omega)
 by_cases h0 : i.kind = 0
 ·rw [Va hr h0]
  have k2 := Zcp i.act h.act;have hl := Nq (a := i.act);generalize Ac.bytes i.act = z at *;generalize Ag i.kind = n0 at *;refine run ?_;refine cp kr ?_;refine run ?_;refine cp kn ?_;refine run ?_;refine cp k2 ?_;refine run ?_;exact Ab
 by_cases hk : i.kind = 1
 ·have hs := Gd hr (by omega)
  have hb : It.bytes i = Ag i.kind ++ Dd i.claim ++ (Ag i.claim.sig.e ++ Ag i.claim.sig.s) := by
   rw [It.bytes_right hr];unfold FA Ec Bp;have e0 : i.kind ≠ 0 := by omega
   simp [hk]
  have hsg : Bp i = i.claim.sig := by unfold Bp; simp [hk]
  rw [hsg] at hs;simp only [AI, Bool.and_eq_true, Bb] at hs;rw [hb];have k2 := Zco i.claim h3.ez.c h3.ez.ci;have k3 := Pk i.claim.sig hs;have hl : (Dd i.claim).length ≤ 60000000 := by have := Nn h3.ez; omega
  have n1 := Aj i.claim.sig.e (by omega)
  have n2 := Aj i.claim.sig.s (by omega)
  generalize Dd i.claim = AM at *;generalize Ag i.kind = n0 at *;generalize Ag i.claim.sig.e = ne at *;generalize Ag i.claim.sig.s = ns at *;refine run ?_;refine cp kr ?_;refine run ?_;refine cp kn ?_;refine run ?_;refine cp k2 ?_;refine run ?_;refine cp k3 ?_;refine run ?_;exact Ab
 by_cases hk : i.kind = 2
 ·have hs := Gd hr (by omega)
  have hb : It.bytes i = Ag i.kind ++ Df i.ballot ++ (Ag i.ballot.sig.e ++ Ag i.ballot.sig.s) := by
   rw [It.bytes_right hr];unfold FA Ec Bp;have e0 : i.kind ≠ 0 := by omega
   simp [hk]
  have hsg : Bp i = i.ballot.sig := by unfold Bp; simp [hk]
  rw [hsg] at hs;simp only [AI, Bool.and_eq_true, Bb] at hs;rw [hb];have k2 := Zcq i.ballot h3.ez.b h3.ez.bi;have k3 := Pk i.ballot.sig hs;have hl : (Df i.ballot).length ≤ 60000000 := by have := Nx h3.ez; omega
  have n1 := Aj i.ballot.sig.e (by omega)
  have n2 := Aj i.ballot.sig.s (by omega)
  generalize Df i.ballot = AM at *;generalize Ag i.kind = n0 at *;generalize Ag i.ballot.sig.e = ne at *;generalize Ag i.ballot.sig.s = ns at *;refine run ?_;refine cp kr ?_;refine run ?_;refine cp kn ?_;refine run ?_;refine cp k2 ?_;refine run ?_;refine cp k3 ?_;refine run ?_;exact Ab
 have hk : i.kind = 3 := by omega
 have hs := Gd hr (by omega)
 have hb : It.bytes i = Ag i.kind ++ Dc i.decision ++ (Ag i.decision.sig.e ++ Ag i.decision.sig.s) := by
  rw [It.bytes_right hr];unfold FA Ec Bp;have e0 : i.kind ≠ 0 := by omega
  simp [hk]
 have hsg : Bp i = i.decision.sig := by unfold Bp; simp [hk]
 rw [hsg] at hs;simp only [AI, Bool.and_eq_true, Bb] at hs;rw [hb];have k2 := Zck i.decision h3.ez.d h3.ez.dt h3.ez.di;have k3 := Pk i.decision.sig hs;have hl : (Dc i.decision).length ≤ 60000000 := by have := Ng h3; omega
 have n1 := Aj i.decision.sig.e (by omega)
 have n2 := Aj i.decision.sig.s (by omega)
 generalize Dc i.decision = AM at *;generalize Ag i.kind = n0 at *;generalize Ag i.decision.sig.e = ne at *;generalize Ag i.decision.sig.s = ns at *;refine run ?_;refine cp kr ?_;refine run ?_;refine cp kn ?_;refine run ?_;refine cp k2 ?_;refine run ?_;refine cp k3 ?_;refine run ?_;exact Ab
theorem Zd8 {i : It.Item} (h : It.right i = true) : It.bytes i ≠ [] := by
 have hk := It.right_kind h;rw [It.bytes_right h];exact fun e => absurd (List.append_eq_nil_iff.1 e).1 (Sc (by omega))
theorem Zci (e : It.Entry) (h : Iz e.item) : AC prog 245 [Eu e] [] (.st (Da e)) [] := by
 refine Ai [140, 307, 80] [] func245 ?_;have kb := T1 e.item h;have hl := Nr e.item;refine run ?_;refine cp kb ?_;cases hr : It.right e.item with
 | false =>
  have h0 := It.bytes_wrong hr;have h1 : Da e = [] := by unfold Da; rw [hr, Bool.and_false]; rfl
  rw [h1, h0];refine run ?_;exact Ab
 | true =>
  have hne := Zd8 hr;have hq : (It.bytes e.item == []) = false := by simpa using hne
  have kt := BX e.time 0 1099511627776;cases ht : wi e.time 0 1099511627776 with
  | false =>
   rw [ht] at kt;have h1 : Da e = [] := by unfold Da isTime; rw [ht]; rfl
   rw [h1];refine Aa @hq ?_;refine cp kt ?_;refine Aa @hq ?_;exact Ab
  | true =>
   rw [ht] at kt;have h1 : Da e = Ag e.time ++ It.bytes e.item := by unfold Da isTime; rw [ht, hr]; rfl
   have htm := Bb.1 ht;have n1 := Aj e.time (by omega)
   rw [h1];generalize It.bytes e.item = z at *;refine Aa @hq ?_;refine cp kt ?_;refine Aa @hq ?_;refine cp (AL e.time (by omega)) ?_
   refine run ?_;exact Ab
end Pe
end
section
namespace Pe
open Tryz
open Go Go.RowKit Co Sg Ac It
set_option maxRecDepth 100000
set_option maxHeartbeats 4000000
theorem Zcj (i : It.Item) (h : Iz i) : AC prog 73 [AN i] [] (.st (It.digest i)) [] := by
 refine Ar [140, 118] [] func73 ?_;have kb := T1 i h;have hl := Nr i;unfold It.digest;generalize It.bytes i = bs at *;refine run ?_;refine cp kb ?_;by_cases hb : bs = []
 ·subst hb
  rw [if_pos rfl];refine run ?_;exact Ab
 ·have hq : (bs == []) = false := Ij bs [] hb
  rw [if_neg hb];refine Aa @hq ?_;refine cp (FN bs (by omega)) ?_
  refine run ?_;exact Ab
theorem TH (a : Ac.Act) : AC prog 292 [As a] [] (AN (Av a)) [] := by
 refine Ar [] [] func292 ?_;refine run ?_;exact Am
end Pe
end
end Go.Proofs.YtiidnoejnphocaaGreatDoor
