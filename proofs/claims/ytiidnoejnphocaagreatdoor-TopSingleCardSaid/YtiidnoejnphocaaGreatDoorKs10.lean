import Derived.Test.YtiidnoejnphocaaGreatDoorKs9
set_option linter.unusedSectionVars false
set_option linter.unusedVariables false
set_option linter.unusedSimpArgs false
namespace Go.Proofs.YtiidnoejnphocaaGreatDoor
section
namespace Pe
open Tryz
open Go Go.RowKit Co Sg Ac
variable [Tab]
set_option maxRecDepth 100000
set_option maxHeartbeats 4000000
abbrev JF (b : Box) : AV := .agg [.st b.nonce, .st b.data, .st b.tag]
abbrev Ba (w : Wrap) : AV := .agg [.it .i64 w.to, .it .i64 w.eph, .st w.box.nonce, .st w.box.data, .st w.box.tag]
abbrev wraps (m : Mode) (l : List Wrap) : AV := .sl m (l.map Ba)
abbrev FE (a : Ac.Act) : List AV := [.st a.author, .it .i64 a.seq, .st a.prev, .it .i64 a.kind, .it .i64 a.time, .st a.object, .st a.target, .it .i64 a.scope, .st a.group, At a.to, .st a.text, .st a.body.nonce, .st a.body.data, .st a.body.tag, .it .i64 a.epoch, .sl .ro (a.wraps.map Ba), .it .i64 a.n, .it .i64 a.m, .it .i64 a.sig.e, .it .i64 a.sig.s]
abbrev As (a : Ac.Act) : AV := .agg [.st a.author, .it .i64 a.seq, .st a.prev, .it .i64 a.kind, .it .i64 a.time, .st a.object, .st a.target, .it .i64 a.scope, .st a.group, At a.to, .st a.text, .st a.body.nonce, .st a.body.data, .st a.body.tag, .it .i64 a.epoch, .sl .ro (a.wraps.map Ba), .it .i64 a.n, .it .i64 a.m, .it .i64 a.sig.e, .it .i64 a.sig.s]
structure Sz (a : Ac.Act) : Prop where
 author : a.author.length ≤ 140737488355328
 target : a.target.length ≤ 140737488355328
 group : a.group.length ≤ 140737488355328
 text : a.text.length ≤ 140737488355328
 tos : ∀ s ∈ a.to, s.length ≤ 140737488355328
 to : a.to.length ≤ 140737488355328
 wraps : a.wraps.length ≤ 140737488355328
theorem E3 (s : By) : (s == []) = decide (s = []) := by rw [Bool.eq_iff_iff]; simp
theorem Qj (n : Int) : (n == 0) = decide (n = 0) := rfl
theorem Ir {α : Type} (l : List α) [DecidableEq α] : ((l.length : Int) == 0) = decide (l = []) := by
 cases l with
 | nil => rfl
 | cons a l =>
  rw [show ((((a :: l).length : Nat) : Int) == 0) = false from FB (by simp only [List.length_cons]; omega)]
  simp
theorem C4 (s : By) : AP s = ((s.length : Int) == 32) := by
 unfold AP;rw [Bool.eq_iff_iff];simp only [decide_eq_true_eq, beq_iff_eq];omega
theorem GP (s : By) : Cs s = decide ((s.length : Int) ≤ 500) := by
 unfold Cs;rw [Bool.eq_iff_iff];simp only [decide_eq_true_eq];omega
theorem PU (b : Box) : decide (b = Cq) = ((b.nonce == []) && ((b.data == []) && (b.tag == []))) := by
 obtain ⟨x, y, z⟩ := b;rw [Bool.eq_iff_iff];simp [Cq]
theorem Fi (n lo hi : Int) : AC prog 165 [.it .i64 n, .it .i64 lo, .it .i64 hi] [] (.bo (wi n lo hi)) [] := by
 refine AC.enter [] [] func165 rfl (by decide) (by decide) (Nat.le_of_ble_eq_true rfl) (by kernel_rfl) ?_; refine An ?_
 unfold wi;by_cases h : lo ≤ n
 ·rw [decide_eq_true h]
  refine run ?_;exact Ab
 ·rw [decide_eq_false h]
  refine run ?_;exact Ab
theorem Td (s : By) : AC prog 250 [.st s] [] (.bo (AP s)) [] := by
 refine AC.enter [] [] func250 rfl (by decide) (by decide) (Nat.le_of_ble_eq_true rfl) (by kernel_rfl) ?_; refine An ?_
 rw [C4];refine run ?_;exact Ab
theorem MV (s : By) : AC prog 256 [.st s] [] (.bo (Cs s)) [] := by
 refine AC.enter [] [] func256 rfl (by decide) (by decide) (Nat.le_of_ble_eq_true rfl) (by kernel_rfl) ?_; refine An ?_
 rw [GP];refine run ?_;exact Ab
theorem MW (n : Int) : AC prog 315 [.it .i64 n] [] (.bo (pub n)) [] := by
 refine AC.enter [165] [] func315 rfl (by decide) (by decide) (Nat.le_of_ble_eq_true rfl) (by kernel_rfl) ?_; refine An ?_
 refine run ?_;refine cp (Fi n 1 2305843009213693950) ?_;refine run ?_;exact Ab
theorem Tc (b : Box) : AC prog 314 [JF b] [] (.bo (D0 b)) [] := by
 refine AC.enter [256] [] func314 rfl (by decide) (by decide) (Nat.le_of_ble_eq_true rfl) (by kernel_rfl) ?_; refine An ?_
 unfold D0;by_cases h1 : b.nonce.length = 32
 ·rw [decide_eq_true h1]
  by_cases h2 : b.tag.length = 16
  ·rw [decide_eq_true h2]
   refine run ?_;refine cp (MV b.data) ?_;refine run ?_;exact Ab
  ·rw [decide_eq_false h2]
   refine run ?_;exact Ab
 ·rw [decide_eq_false h1]
  refine run ?_;exact Ab
theorem Qv (a : Ac.Act) (hw : a.wraps.length ≤ 140737488355328) : AC prog 316 [As a] [] (.bo (EB a)) [] := by
 refine AC.enter [315, 314] [] func316 rfl (by decide) (by decide) (Nat.le_of_ble_eq_true rfl) (by kernel_rfl) ?_; refine An ?_
 unfold EB;have hsz : Ax 5 (a.wraps.map Ba) = true := Bh 5 Ba (fun _ => rfl) _
 refine run ?_;refine AF (fun m e S => e 1 = .ptr 0 0 ∧ e 6 = .sl .ro (a.wraps.map Ba) ∧ e 7 = .it .i64 (a.wraps.length : Int) ∧ ∃ (k : Nat) (T : Ae), e 8 = .it .i64 (k : Int) ∧ S = .cells (FE a) :: T ∧ k ≤ a.wraps.length ∧ (∀ j (h : j < a.wraps.length), j < k → Ca a.wraps[j] = true) ∧ m = a.wraps.length - k) a.wraps.length
  ⟨Ad, Ad, Ad, 0, [], Ad, rfl, by omega, fun j _ h => absurd h (Nat.not_lt_zero _), rfl⟩ ?_
 rintro m e S ⟨s1, s6, s7, k, T, s8, rfl, hk, hall, rfl⟩
 by_cases hlt : k < a.wraps.length
 rotate_left
 ·obtain rfl : k = a.wraps.length := by omega
  have h1 : a.wraps.all Ca = true := List.all_eq_true.2 fun x hx => by
   obtain ⟨j, hj, rfl⟩ := List.getElem_of_mem hx;exact hall j hj hj
  have h2 : decide (a.wraps.length = a.to.length) = ((a.wraps.length : Int) == (a.to.length : Int)) := by
   rw [Bool.eq_iff_iff];simp only [decide_eq_true_eq, beq_iff_eq];omega
  rw [h1, h2];refine Aa (A4 @s1 @s6 @s7 @s8) ?_;exact Ab
 have hg : a.wraps[k]? = some a.wraps[k] := List.getElem?_eq_getElem hlt
 have hbad : Ca a.wraps[k] = false → a.wraps.all Ca = false := fun h => List.all_eq_false.2 ⟨_, List.getElem_mem hlt, by simp [h]⟩
 have hnext : Ca a.wraps[k] = true → ∀ j (h : j < a.wraps.length), j < k + 1 → Ca a.wraps[j] = true := fun hb j h hj => by
  by_cases e : j = k
  ·subst e; exact hb
  ·exact hall j h (by omega)
 generalize a.wraps[k] = x at *;have hT1 : ∀ y : SObj, (T ++ [y])[T.length]? = some y := fun y => by simp
 have hT2 : ∀ y z : SObj, (T ++ [y]).set T.length z = T ++ [z] := fun y z => by simp
 have hwx : Ca x = (pub x.to && pub x.eph && D0 x.box) := rfl;rw [hwx] at hbad hnext;refine Aa (A8 @s1 @s6 @s7 @s8 @hg @hsz @hT1 @hT2) ?_;refine cp (MW x.to) ?_;cases h1 : pub x.to with
 | false =>
  rw [h1] at hbad;rw [hbad rfl];refine Aa (A6 @s1 @s6 @s7 @s8 @hT1 @hT2) ?_;exact Ab
 | true =>
  refine Aa (A6 @s1 @s6 @s7 @s8 @hT1 @hT2) ?_;refine cp (MW x.eph) ?_;cases h2 : pub x.eph with
  | false =>
   rw [h1, h2] at hbad;rw [hbad rfl];refine Aa (A6 @s1 @s6 @s7 @s8 @hT1 @hT2) ?_;exact Ab
  | true =>
   refine Aa (A6 @s1 @s6 @s7 @s8 @hT1 @hT2) ?_;refine cp (Tc x.box) ?_;cases h3 : D0 x.box with
   | false =>
    rw [h1, h2, h3] at hbad;rw [hbad rfl];refine Aa (A6 @s1 @s6 @s7 @s8 @hT1 @hT2) ?_;exact Ab
   | true =>
    rw [h1, h2, h3] at hnext;refine Aa (A6 @s1 @s6 @s7 @s8 @hT1 @hT2) ?_;exact Ao (a.wraps.length - (k + 1)) (by omega) ⟨Ad, Ad, Ad, k + 1, _, Ad, rfl, by omega, hnext rfl, rfl⟩
theorem Rf (sc : Int) (g : By) (hg : g.length ≤ 140737488355328) : AC prog 313 [.it .i64 sc, .st g] [] (.bo (Fo sc g)) [] := by
 refine AC.enter [258] [] func313 rfl (by decide) (by decide) (Nat.le_of_ble_eq_true rfl) (by kernel_rfl) ?_; refine An ?_
 unfold Fo;have hn := E3;by_cases h2 : sc = 2
 ·rw [if_pos h2]
  refine run ?_;refine cp (MI g hg) ?_;refine run ?_;exact Ab
 rw [if_neg h2];by_cases h1 : sc = 1
 ·rw [if_pos (.inl h1)]
  refine Aa @hn ?_;exact Ab
 by_cases h3 : sc = 3
 ·rw [if_pos (.inr h3)]
  refine Aa @hn ?_;exact Ab
 ·rw [if_neg (by omega)]
  refine run ?_;exact Ab
theorem VH (a : Ac.Act) (h : Sz a) : AC prog 253 [As a] [] (.bo (DU a)) [] := by
 refine AC.enter [261, 256, 313, 165, 314] [] func253 rfl (by decide) (by decide) (Nat.le_of_ble_eq_true rfl) (by kernel_rfl) ?_; refine An ?_
 unfold DU;have hn := E3;have hz := Qj;have hb := PU a.body;have hl := Ir a.to;refine run ?_;refine cp (Lh a.to h.tos h.to) ?_;cases h0 : BR a.to with
 | false =>
  refine run ?_;exact Ab
 | true =>
  by_cases hs : a.scope = 0
  ·rw [if_pos hs]
   by_cases h1 : a.group = []
   rotate_left
   ·rw [decide_eq_false h1]
    refine Aa (an @hn @h1) ?_;exact Ab
   by_cases h2 : a.epoch = 0
   rotate_left
   ·rw [decide_eq_true h1, decide_eq_false h2]
    refine Aa (an @hn @h1) ?_;exact Ab
   rw [decide_eq_true h1, decide_eq_true h2];refine Aa (an @hn @h1) ?_;refine cp (MV a.text) ?_;cases h3 : Cs a.text with
   | false =>
    refine run ?_;exact Ab
   | true =>
    rw [hb];refine run ?_;exact Ab
  ·rw [if_neg hs]
   by_cases h1 : a.to = [] ∨ a.scope = 3
   rotate_left
   ·have h2 : a.to ≠ [] := fun e => h1 (.inl e)
    have h3 : a.scope ≠ 3 := fun e => h1 (.inr e)
    have h4 : (0 : Int) < (a.to.length : Int) := by have := List.length_pos_iff.2 h2; omega
    rw [decide_eq_false h2, decide_eq_false h3];refine Aa @h4 ?_;exact Ab
   have e1 : (decide (a.to = []) || decide (a.scope = 3)) = true := by simpa using h1
   rw [e1];have hgo : ∀ G : Prop, (a.to = [] → G) → (a.to ≠ [] → a.scope = 3 → G) → G := fun G g1 g2 => by
    by_cases e : a.to = []
    ·exact g1 e
    ·exact g2 e (h1.resolve_left e)
   refine hgo _ (fun e => ?_) (fun e e3 => ?_)
   focus
    have h4 : ¬ (0 : Int) < (a.to.length : Int) := by rw [e]; simp
    refine Aa @h4 ?_
   rotate_left;focus
    have h4 : (0 : Int) < (a.to.length : Int) := by have := List.length_pos_iff.2 e; omega
    refine Aa (an @h4 @e3) ?_;rw [← e3]
   all_goals
    refine cp (Rf a.scope a.group h.group) ?_;cases h5 : Fo a.scope a.group with
    | false =>
     refine run ?_;exact Ab
    | true =>
     refine run ?_;refine cp (Fi a.epoch 0 1073741824) ?_;cases h6 : wi a.epoch 0 1073741824 with
     | false =>
      refine run ?_;exact Ab
     | true =>
      by_cases h7 : a.text = []
      rotate_left
      ·rw [decide_eq_false h7]
       refine Aa (an @hn @h7) ?_;exact Ab
      rw [decide_eq_true h7];refine Aa (an @hn @h7) ?_;refine cp (Tc a.body) ?_;refine run ?_;exact Ab
theorem KR (a : Ac.Act) : AC prog 252 [As a] [] (.bo (AP a.object)) [] := by
 refine AC.enter [250] [] func252 rfl (by decide) (by decide) (Nat.le_of_ble_eq_true rfl) (by kernel_rfl) ?_; refine An ?_
 refine run ?_;refine cp (Td a.object) ?_;refine run ?_;exact Ab
theorem L2 (a : Ac.Act) (h : Sz a) : AC prog 254 [As a] [] (.bo (AD a.target)) [] := by
 refine AC.enter [163] [] func254 rfl (by decide) (by decide) (Nat.le_of_ble_eq_true rfl) (by kernel_rfl) ?_; refine An ?_
 refine run ?_;refine cp (Jw a.target h.target) ?_;refine run ?_;exact Ab
theorem Tf (a : Ac.Act) : AC prog 259 [As a] [] (.bo (home a)) [] := by
 refine AC.enter [315, 165] [] func259 rfl (by decide) (by decide) (Nat.le_of_ble_eq_true rfl) (by kernel_rfl) ?_; refine An ?_
 unfold home;refine run ?_;refine cp (MW a.n) ?_;cases h1 : pub a.n with
 | false => refine run ?_; exact Ab
 | true =>
  refine run ?_;refine cp (Fi a.m 0 19) ?_;refine run ?_;exact Ab
theorem ZbR (a : Ac.Act) (h : Sz a) : AC prog 262 [As a] [] (.bo (grant a)) [] := by
 refine AC.enter [313, 165, 261, 316] [] func262 rfl (by decide) (by decide) (Nat.le_of_ble_eq_true rfl) (by kernel_rfl) ?_; refine An ?_
 unfold grant;refine run ?_;refine cp (Rf a.scope a.group h.group) ?_;cases h1 : Fo a.scope a.group with
 | false => refine run ?_; exact Ab
 | true =>
  refine run ?_;refine cp (Fi a.epoch 0 1073741824) ?_;cases h2 : wi a.epoch 0 1073741824 with
  | false => refine run ?_; exact Ab
  | true =>
   refine run ?_;refine cp (Lh a.to h.tos h.to) ?_;cases h3 : BR a.to with
   | false => refine run ?_; exact Ab
   | true =>
    refine run ?_;refine cp (Qv a h.wraps) ?_;refine run ?_;exact Ab
theorem Zbb (a : Ac.Act) (h : Sz a) : AC prog 263 [As a] [] (.bo (label a)) [] := by
 refine AC.enter [258, 252, 254] [] func263 rfl (by decide) (by decide) (Nat.le_of_ble_eq_true rfl) (by kernel_rfl) ?_; refine An ?_
 unfold label;have hn := E3;refine run ?_;refine cp (MI a.text h.text) ?_;cases h1 : BQ a.text with
 | false => refine run ?_; exact Ab
 | true =>
  refine run ?_;refine cp (KR a) ?_;cases h2 : AP a.object with
  | true =>
   by_cases h3 : a.target = []
   ·rw [decide_eq_true h3]
    refine Aa (an @hn @h3) ?_;exact Ab
   ·rw [decide_eq_false h3]
    refine Aa (an @hn @h3) ?_;refine cp (L2 a h) ?_;cases h4 : AD a.target with
    | false => refine run ?_; exact Ab
    | true => refine Aa @hn ?_; exact Ab
  | false =>
   refine run ?_;refine cp (L2 a h) ?_;cases h4 : AD a.target with
   | false => refine run ?_; exact Ab
   | true => refine Aa @hn ?_; exact Ab
theorem YD (a : Ac.Act) (h : Sz a) : AC prog 264 [As a] [] (.bo (setup a)) [] := by
 refine AC.enter [261, 316, 165, 315] [] func264 rfl (by decide) (by decide) (Nat.le_of_ble_eq_true rfl) (by kernel_rfl) ?_; refine An ?_
 unfold setup;by_cases h0 : 0 < a.to.length
 rotate_left
 ·rw [decide_eq_false h0]
  refine run ?_;exact Ab
 rw [decide_eq_true h0];refine run ?_;refine cp (Lh a.to h.tos h.to) ?_;cases h1 : BR a.to with
 | false => refine run ?_; exact Ab
 | true =>
  refine run ?_;refine cp (Qv a h.wraps) ?_;cases h2 : EB a with
  | false => refine run ?_; exact Ab
  | true =>
   refine run ?_;refine cp (Fi a.n 1 a.to.length) ?_;cases h3 : wi a.n 1 a.to.length with
   | false => refine run ?_; exact Ab
   | true =>
    refine run ?_;refine cp (MW a.m) ?_;refine run ?_;exact Ab
theorem YZ (a : Ac.Act) (h : Sz a) : AC prog 251 [As a] [] (.bo (AP a.object && DU a)) [] := by
 refine AC.enter [252, 253] [] func251 rfl (by decide) (by decide) (Nat.le_of_ble_eq_true rfl) (by kernel_rfl) ?_; refine An ?_
 refine run ?_;refine cp (KR a) ?_;cases h1 : AP a.object with
 | false => refine run ?_; exact Ab
 | true =>
  refine run ?_;refine cp (VH a h) ?_;refine run ?_;exact Ab
theorem YY (a : Ac.Act) : AC prog 255 [As a] [] (.bo (AP a.object && Cs a.text)) [] := by
 refine AC.enter [252, 256] [] func255 rfl (by decide) (by decide) (Nat.le_of_ble_eq_true rfl) (by kernel_rfl) ?_; refine An ?_
 refine run ?_;refine cp (KR a) ?_;cases h1 : AP a.object with
 | false => refine run ?_; exact Ab
 | true =>
  refine run ?_;refine cp (MV a.text) ?_;refine run ?_;exact Ab
theorem YX (a : Ac.Act) (h : Sz a) : AC prog 257 [As a] [] (.bo (BQ a.text && home a)) [] := by
 refine AC.enter [258, 259] [] func257 rfl (by decide) (by decide) (Nat.le_of_ble_eq_true rfl) (by kernel_rfl) ?_; refine An ?_
 refine run ?_;refine cp (MI a.text h.text) ?_;cases h1 : BQ a.text with
 | false => refine run ?_; exact Ab
 | true =>
  refine run ?_;refine cp (Tf a) ?_;refine run ?_;exact Ab
theorem YW (a : Ac.Act) (h : Sz a) : AC prog 260 [As a] [] (.bo (BQ a.group && BR a.to)) [] := by
 refine AC.enter [258, 261] [] func260 rfl (by decide) (by decide) (Nat.le_of_ble_eq_true rfl) (by kernel_rfl) ?_; refine An ?_
 refine run ?_;refine cp (MI a.group h.group) ?_;cases h1 : BQ a.group with
 | false => refine run ?_; exact Ab
 | true =>
  refine run ?_;refine cp (Lh a.to h.tos h.to) ?_;refine run ?_;exact Ab
theorem YV (a : Ac.Act) : AC prog 265 [As a] [] (.bo (AP a.object && wi a.n 0 1)) [] := by
 refine AC.enter [252, 165] [] func265 rfl (by decide) (by decide) (Nat.le_of_ble_eq_true rfl) (by kernel_rfl) ?_; refine An ?_
 refine run ?_;refine cp (KR a) ?_;cases h1 : AP a.object with
 | false => refine run ?_; exact Ab
 | true =>
  refine run ?_;refine cp (Fi a.n 0 1) ?_;refine run ?_;exact Ab
theorem YU (a : Ac.Act) (h : Sz a) : AC prog 266 [As a] [] (.bo (AD a.target && Cs a.text && wi a.n 0 1099511627776)) [] := by
 refine AC.enter [254, 256, 165] [] func266 rfl (by decide) (by decide) (Nat.le_of_ble_eq_true rfl) (by kernel_rfl) ?_; refine An ?_
 refine run ?_;refine cp (L2 a h) ?_;cases h1 : AD a.target with
 | false => refine run ?_; exact Ab
 | true =>
  refine run ?_;refine cp (MV a.text) ?_;cases h2 : Cs a.text with
  | false => refine run ?_; exact Ab
  | true =>
   refine run ?_;refine cp (Fi a.n 0 1099511627776) ?_;refine run ?_;exact Ab
theorem Z8 (a : Ac.Act) : AC prog 164 [As a] [] (.bo (Ck a)) [] := by
 refine AC.enter [165, 250] [] func164 rfl (by decide) (by decide) (Nat.le_of_ble_eq_true rfl) (by kernel_rfl) ?_; refine An ?_
 unfold Ck;have hn := E3;by_cases h0 : a.seq = 0
 ·rw [if_pos h0]
  by_cases h1 : a.kind = 0
  ·rw [decide_eq_true h1]
   refine Aa @hn ?_;exact Ab
  ·rw [decide_eq_false h1]
   refine run ?_;exact Ab
 ·rw [if_neg h0]
  refine run ?_;refine cp (Fi a.seq 1 1073741824) ?_;cases h1 : wi a.seq 1 1073741824 with
  | false => refine run ?_; exact Ab
  | true =>
   by_cases h2 : a.kind = 0
   ·rw [decide_eq_false (p := a.kind ≠ 0) (by simpa using h2)]
    refine run ?_;exact Ab
   ·rw [decide_eq_true (p := a.kind ≠ 0) h2]
    refine run ?_;refine cp (Td a.prev) ?_;refine run ?_;exact Ab
theorem Zat (f s : Int) (z : Bool) : AC prog 267 [.it .i64 f, .bo z, .ptr 0 0] [.cells [.it .i64 s]] (.tup []) [.cells [.it .i64 (Bm z f s)]] := by
 refine AC.enter [] [] func267 rfl (by decide) (by decide) (Nat.le_of_ble_eq_true rfl) (by kernel_rfl) ?_; refine An ?_
 unfold Bm;cases z
 ·refine run ?_
  exact Um
 ·refine run ?_
  exact Um
theorem Fs (f s : Int) (z : Bool) (o : SObj) : AC prog 267 [.it .i64 f, .bo z, .ptr 1 0] [o, .cells [.it .i64 s]] (.tup []) [o, .cells [.it .i64 (Bm z f s)]] :=
 AC.at1 (T := [o, .cells [.it .i64 s]]) (Zat f s z) 1 rfl rfl rfl rfl rfl
theorem XG (a : Ac.Act) : AC prog 167 [As a] [] (.it .i64 (H3 a)) [] := by
 refine AC.enter [] [] func167 rfl (by decide) (by decide) (Nat.le_of_ble_eq_true rfl) (by kernel_rfl) ?_; refine An ?_
 unfold H3;have hn := E3;have hz := Qj;have hb := PU a.body;have hl := Ir a.to;have hw := Ir a.wraps;rw [hb];refine Aa @hn ?_;refine BZ (Fs 1 0 (decide (a.object = [])) _) ?_;generalize Bm (decide (a.object = [])) 1 0 = s at *;refine Aa @hn ?_;refine BZ (Fs 2 s (decide (a.target = [])) _) ?_;generalize Bm (decide (a.target = [])) 2 s = s at *;refine Aa @hz ?_;refine BZ (Fs 4 s (decide (a.scope = 0)) _) ?_;generalize Bm (decide (a.scope = 0)) 4 s = s at *;refine Aa @hn ?_;refine BZ (Fs 8 s (decide (a.group = [])) _) ?_;generalize Bm (decide (a.group = [])) 8 s = s at *;refine Aa @hl ?_;refine BZ (Fs 16 s (decide (a.to = [])) _) ?_;generalize Bm (decide (a.to = [])) 16 s = s at *;refine Aa @hn ?_;refine BZ (Fs 32 s (decide (a.text = [])) _) ?_;generalize Bm (decide (a.text = [])) 32 s = s at *;refine Aa @hn ?_;refine BZ (Fs 64 s (decide (a.body.nonce = []) && (decide (a.body.data = []) && decide (a.body.tag = []))) _) ?_;generalize Bm (decide (a.body.nonce = []) && (decide (a.body.data = []) && decide (a.body.tag = []))) 64 s = s at *;refine Aa @hz ?_;refine BZ (Fs 128 s (decide (a.epoch = 0)) _) ?_;generalize Bm (decide (a.epoch = 0)) 128 s = s at *;refine Aa @hw ?_;refine BZ (Fs 256 s (decide (a.wraps = [])) _) ?_;generalize Bm (decide (a.wraps = [])) 256 s = s at *;refine Aa @hz ?_;refine BZ (Fs 512 s (decide (a.n = 0)) _) ?_;generalize Bm (decide (a.n = 0)) 512 s = s at *;refine Aa @hz ?_;refine BZ (Fs 1024 s (decide (a.m = 0)) _) ?_;generalize Bm (decide (a.m = 0)) 1024 s = s at *;refine run ?_;exact Ab
def Oi : Ru → FuncId
 | .begin => 257
 | .post => 253
 | .reply => 251
 | .about => 252
 | .tie => 254
 | .reason => 255
 | .circle => 260
 | .grant => 262
 | .label => 263
 | .move => 259
 | .setup => 264
 | .judge => 265
 | .list => 266
theorem Y2 (a : Ac.Act) (h : Sz a) (r : Ru) : AC prog (Oi r) [As a] [] (.bo (r.ok a)) [] := by
 cases r
 ·exact YX a h
 ·exact VH a h
 ·exact YZ a h
 ·exact KR a
 ·exact L2 a h
 ·exact YY a
 ·exact YW a h
 ·exact ZbR a h
 ·exact Zbb a h
 ·exact Tf a
 ·exact YD a h
 ·exact YV a
 ·exact YU a h
def KE (r : Ru) : AV := .agg [.it .i64 r.mask, .fn (.func (Oi r)) [] []]
def KF : List (AV × AV) := Ji.map fun p => (.it .i64 p.1, KE p.2)
theorem SX (k : Int) : ∀ (l : List (Int × Ru)) (i : Nat), (l.lookup k = none ∧ D9 (.it .i64 k) (l.map fun p => (.it .i64 p.1, KE p.2)) i = some none) ∨ (∃ r j, l.lookup k = some r ∧ D9 (.it .i64 k) (l.map fun p => (.it .i64 p.1, KE p.2)) i = some (some (j, KE r)))
 | [], i => .inl ⟨rfl, rfl⟩
 | (k', r) :: l, i => by
  have hk : GZ (.it .i64 k) (.it .i64 k') = some (k == k') := rfl;rw [List.map_cons, List.lookup_cons];unfold D9;rw [hk];cases e : k == k' with
  | true => exact .inr ⟨r, i, rfl, rfl⟩
  | false => exact SX k l (i + 1)
theorem Y3 : (SObj.map KF).ok 0 = true := by decide +kernel
theorem YT : AC prog 166 [] [] (.fm KF) [] := by
 refine AC.enter [] [] func166 rfl (by decide) (by decide) (Nat.le_of_ble_eq_true rfl) (by kernel_rfl) ?_; refine An ?_
 refine run ?_;exact Na _ _ (Ay.freeze 0 0 4 (es := KF) (by rfl) (by rfl) Y3) [] (by rfl) (QT _) (by rfl) (by rfl) (by rfl)
theorem Oq (a : Ac.Act) (h : Sz a) : AC prog 103 [As a] [] (.bo (right a)) [] := by
 refine AC.enter [166, 163, 164, 165, 167, 1000050] [] func103 rfl (by decide) (by decide) (Nat.le_of_ble_eq_true rfl) (by kernel_rfl) ?_; refine An ?_
 unfold right;refine run ?_;refine cp (Jw a.author h.author) ?_;cases h1 : AD a.author with
 | false => refine run ?_; exact Ab
 | true =>
  refine run ?_;refine cp (Z8 a) ?_;cases h2 : Ck a with
  | false => refine run ?_; exact Ab
  | true =>
   refine run ?_;refine cp (Fi a.time 0 1099511627776) ?_;cases h3 : wi a.time 0 1099511627776 with
   | false => refine run ?_; exact Ab
   | true =>
    unfold AI;refine run ?_;refine cp (Fi a.sig.e 0 2305843009213693949) ?_;cases h4 : wi a.sig.e 0 2305843009213693949 with
    | false => refine run ?_; exact Ab
    | true =>
     refine run ?_;refine cp (Fi a.sig.s 0 2305843009213693949) ?_;cases h5 : wi a.sig.s 0 2305843009213693949 with
     | false => refine run ?_; exact Ab
     | true =>
      refine run ?_;refine cp YT ?_;rcases SX a.kind Ji 0 with ⟨hr, hk⟩ | ⟨r, j, hr, hk⟩
      ·change D9 _ KF 0 = _ at hk
       change EW a.kind = _ at hr;rw [hr];refine Aa @hk ?_;exact Ab
      ·change D9 _ KF 0 = _ at hk
       change EW a.kind = _ at hr;rw [hr];have hv : KE r = .agg [.it .i64 r.mask, .fn (.func (Oi r)) [] []] := rfl;rw [hv] at hk;refine Aa @hk ?_;refine cp (XG a) ?_;by_cases hu : Go.bits .andNot .i64 (H3 a) r.mask = 0
       ·rw [decide_eq_true hu]
        have hrc := Y2 a h r;refine Aa @hu ?_;refine cp hrc ?_;refine run ?_;exact Ab
       ·have hb : (Go.bits .andNot .i64 (H3 a) r.mask == 0) = false := by simpa using hu
        rw [decide_eq_false hu];refine Aa @hb ?_;exact Ab
end Pe
namespace Pe
open Tryz
open Go Go.RowKit Co Sg Ac
set_option maxRecDepth 100000
set_option maxHeartbeats 4000000
theorem AC.empties [Tab] {P : Program} {f : FuncId} {m : Mode} {rest : List AV} {S S' : Ae} {v : AV} (h : ∀ (A : Option Addr) (c : Nat), AC P f (.ot (.slice A 0 c) :: rest) S v S') : AC P f (.sl m [] :: rest) S v S' := by
 refine ⟨(h none 0).can, fun w g cargs hw hargs => ?_⟩
 obtain ⟨h1, h2⟩ := hargs;have h0 : 0 < cargs.size := by rw [h1]; simp
 have hr := h2 0 _ cargs[0] rfl (Array.getElem?_eq_getElem h0)
 generalize hcv : cargs[0] = cv at hr;cases hr with
 | sl _ _ _ A c sz cu hc hcm hsz hA h1' hr' hm =>
  refine (h A c).run w g cargs hw ⟨by simpa using h1, fun j u v hu hv => ?_⟩
  cases j with
  | zero =>
   simp only [List.getElem?_cons_zero, Option.some.injEq] at hu
   subst hu;rw [Array.getElem?_eq_getElem h0, hcv] at hv
   cases hv
   exact .ot _ _ rfl
  | succ j => exact h2 (j + 1) u v (by simpa using hu) hv
theorem Ug (l r : List By) (hl : l.length ≤ 140737488355328) (hr : r.length ≤ 140737488355328) : AC prog 159 [.sl .ro (l.map AV.st), .sl .ro (r.map AV.st)] [] (.bo (decide (l = r))) [] := by
 refine AC.enter [] [] func159 rfl (by decide) (by decide) (Nat.le_of_ble_eq_true rfl) (by kernel_rfl) ?_; refine An ?_
 by_cases hlen : l.length = r.length
 rotate_left
 ·rw [decide_eq_false (fun e => hlen (by rw [e]))]
  refine run ?_;exact Ab
 have hs1 : Ax 1 (l.map AV.st) = true := Bh 1 AV.st (fun _ => rfl) _
 have hs2 : Ax 1 (r.map AV.st) = true := Bh 1 AV.st (fun _ => rfl) _
 refine run ?_;refine AF (fun m e S => S = [] ∧ e 0 = .sl .ro (l.map AV.st) ∧ e 1 = .sl .ro (r.map AV.st) ∧ e 12 = .it .i64 (l.length : Int) ∧ ∃ k : Nat, e 13 = .it .i64 (k : Int) ∧ k ≤ l.length ∧ l.take k = r.take k ∧ m = l.length - k) l.length ⟨rfl, Ad, Ad, Ad, 0, Ad, by omega, rfl, rfl⟩ ?_
 rintro m e S ⟨rfl, s0, s1, s12, k, s13, hk, htk, rfl⟩
 by_cases hlt : k < l.length
 rotate_left
 ·obtain rfl : k = l.length := by omega
  rw [List.take_length, List.take_of_length_le (by omega)] at htk
  rw [decide_eq_true htk];refine Aa (A4 @s0 @s1 @s12 @s13) ?_;exact Ab
 have g1 : l[k]? = some l[k] := List.getElem?_eq_getElem hlt
 have g2 : r[k]? = some (r[k]'(by omega)) := List.getElem?_eq_getElem (by omega)
 have hbad : l[k] ≠ r[k]'(by omega) → l ≠ r := fun h e => h (by subst e; rfl)
 have hgood : l[k] = r[k]'(by omega) → l.take (k + 1) = r.take (k + 1) := fun h => by
  rw [List.take_succ_eq_append_getElem hlt, List.take_succ_eq_append_getElem (by omega : k < r.length), htk, h]
 generalize l[k] = x at *;generalize r[k]'_ = y at *;by_cases hxy : x = y
 ·subst hxy
  have hg := hgood rfl;clear hgood hbad htk;refine Aa (A8 @s0 @s1 @s12 @s13 @g1 @g2 @hs1 @hs2) ?_;exact Ao (l.length - (k + 1)) (by omega) ⟨rfl, Ad, Ad, Ad, k + 1, Ad, by omega, hg, rfl⟩
 ·rw [decide_eq_false (hbad hxy)]
  clear hgood hbad htk;have e1 : (x == y) = false := by simpa using hxy
  refine Aa (A9 @s0 @s1 @s12 @s13 @g1 @g2 @hs1 @hs2 @e1) ?_;exact Ab
theorem ZcE (l r : List Wrap) (hl : l.length ≤ 140737488355328) (hr : r.length ≤ 140737488355328) : AC prog 160 [.sl .ro (l.map Ba), .sl .ro (r.map Ba)] [] (.bo (decide (l = r))) [] := by
 refine AC.enter [] [] func160 rfl (by decide) (by decide) (Nat.le_of_ble_eq_true rfl) (by kernel_rfl) ?_; refine An ?_
 by_cases hlen : l.length = r.length
 rotate_left
 ·rw [decide_eq_false (fun e => hlen (by rw [e]))]
  refine run ?_;exact Ab
 have hs1 : Ax 5 (l.map Ba) = true := Bh 5 Ba (fun _ => rfl) _
 have hs2 : Ax 5 (r.map Ba) = true := Bh 5 Ba (fun _ => rfl) _
 refine run ?_;refine AF (fun m e S => S = [] ∧ e 0 = .sl .ro (l.map Ba) ∧ e 1 = .sl .ro (r.map Ba) ∧ e 12 = .it .i64 (l.length : Int) ∧ ∃ k : Nat, e 13 = .it .i64 (k : Int) ∧ k ≤ l.length ∧ l.take k = r.take k ∧ m = l.length - k) l.length ⟨rfl, Ad, Ad, Ad, 0, Ad, by omega, rfl, rfl⟩ ?_
 rintro m e S ⟨rfl, s0, s1, s12, k, s13, hk, htk, rfl⟩
 by_cases hlt : k < l.length
 rotate_left
 ·obtain rfl : k = l.length := by omega
  rw [List.take_length, List.take_of_length_le (by omega)] at htk
  rw [decide_eq_true htk];refine Aa (A4 @s0 @s1 @s12 @s13) ?_;exact Ab
 have g1 : l[k]? = some l[k] := List.getElem?_eq_getElem hlt
 have g2 : r[k]? = some (r[k]'(by omega)) := List.getElem?_eq_getElem (by omega)
 have hbad : l[k] ≠ r[k]'(by omega) → l ≠ r := fun h e => h (by subst e; rfl)
 have hgood : l[k] = r[k]'(by omega) → l.take (k + 1) = r.take (k + 1) := fun h => by
  rw [List.take_succ_eq_append_getElem hlt, List.take_succ_eq_append_getElem (by omega : k < r.length), htk, h]
 generalize l[k] = x at *;generalize r[k]'_ = y at *;by_cases hxy : x = y
 ·subst hxy
  have hg := hgood rfl;clear hgood hbad htk;refine Aa (A8 @s0 @s1 @s12 @s13 @g1 @g2 @hs1 @hs2) ?_;exact Ao (l.length - (k + 1)) (by omega) ⟨rfl, Ad, Ad, Ad, k + 1, Ad, by omega, hg, rfl⟩
 ·rw [decide_eq_false (hbad hxy)]
  clear hgood hbad htk;have e1 : ((x.to == y.to) && ((x.eph == y.eph) && (((x.box.nonce == y.box.nonce) && ((x.box.data == y.box.data) && (x.box.tag == y.box.tag)))))) = false := by
   obtain ⟨x1, x2, x3, x4, x5⟩ := x;obtain ⟨y1, y2, y3, y4, y5⟩ := y;rw [Bool.eq_false_iff];intro h;simp only [Bool.and_eq_true, beq_iff_eq] at h;obtain ⟨rfl, rfl, rfl, rfl, rfl⟩ := h;exact hxy rfl
  refine Aa (A9 @s0 @s1 @s12 @s13 @g1 @g2 @hs1 @hs2 @e1) ?_;exact Ab
theorem YL (a b : Ac.Act) (ha : a.to.length ≤ 140737488355328 ∧ a.wraps.length ≤ 140737488355328) (hb : b.to.length ≤ 140737488355328 ∧ b.wraps.length ≤ 140737488355328) : AC prog 97 [As a, As b] [] (.bo (decide (a = b))) [] := by
 refine AC.enter [159, 160] [] func97 rfl (by decide) (by decide) (Nat.le_of_ble_eq_true rfl) (by kernel_rfl) ?_; refine An ?_
 obtain ⟨q, hq⟩ : ∃ q, decide (a = b) = q := ⟨_, rfl⟩
 rw [hq];obtain ⟨a_author, a_seq, a_prev, a_kind, a_time, a_object, a_target, a_scope, a_group, a_to, a_text, ⟨a_bn, a_bd, a_bt⟩, a_epoch, a_wraps, a_n, a_m, ⟨a_se, a_ss⟩⟩ := a;obtain ⟨b_author, b_seq, b_prev, b_kind, b_time, b_object, b_target, b_scope, b_group, b_to, b_text, ⟨b_bn, b_bd, b_bt⟩, b_epoch, b_wraps, b_n, b_m, ⟨b_se, b_ss⟩⟩ := b;by_cases h_author : a_author = b_author
 rotate_left
 ·obtain rfl : q = false := by rw [← hq]; exact decide_eq_false (fun e => h_author (by cases e; rfl))
  have e_author : (a_author == b_author) = false := by simpa using h_author
  refine Aa @e_author ?_;exact Ab
 subst h_author;by_cases h_seq : a_seq = b_seq
 rotate_left
 ·obtain rfl : q = false := by rw [← hq]; exact decide_eq_false (fun e => h_seq (by cases e; rfl))
  refine run ?_;exact Ab
 subst h_seq;by_cases h_prev : a_prev = b_prev
 rotate_left
 ·obtain rfl : q = false := by rw [← hq]; exact decide_eq_false (fun e => h_prev (by cases e; rfl))
  have e_prev : (a_prev == b_prev) = false := by simpa using h_prev
  refine Aa @e_prev ?_;exact Ab
 subst h_prev;by_cases h_kind : a_kind = b_kind
 rotate_left
 ·obtain rfl : q = false := by rw [← hq]; exact decide_eq_false (fun e => h_kind (by cases e; rfl))
  refine run ?_;exact Ab
 subst h_kind;by_cases h_time : a_time = b_time
 rotate_left
 ·obtain rfl : q = false := by rw [← hq]; exact decide_eq_false (fun e => h_time (by cases e; rfl))
  refine run ?_;exact Ab
 subst h_time;by_cases h_object : a_object = b_object
 rotate_left
 ·obtain rfl : q = false := by rw [← hq]; exact decide_eq_false (fun e => h_object (by cases e; rfl))
  have e_object : (a_object == b_object) = false := by simpa using h_object
  refine Aa @e_object ?_;exact Ab
 subst h_object;by_cases h_target : a_target = b_target
 rotate_left
 ·obtain rfl : q = false := by rw [← hq]; exact decide_eq_false (fun e => h_target (by cases e; rfl))
  have e_target : (a_target == b_target) = false := by simpa using h_target
  refine Aa @e_target ?_;exact Ab
 subst h_target;by_cases h_scope : a_scope = b_scope
 rotate_left
 ·obtain rfl : q = false := by rw [← hq]; exact decide_eq_false (fun e => h_scope (by cases e; rfl))
  refine run ?_;exact Ab
 subst h_scope;by_cases h_group : a_group = b_group
 rotate_left
 ·obtain rfl : q = false := by rw [← hq]; exact decide_eq_false (fun e => h_group (by cases e; rfl))
  have e_group : (a_group == b_group) = false := by simpa using h_group
  refine Aa @e_group ?_;exact Ab
 subst h_group;refine run ?_;refine cp (Ug a_to b_to ha.1 hb.1) ?_;by_cases h_to : a_to = b_to
 rotate_left
 ·obtain rfl : q = false := by rw [← hq]; exact decide_eq_false (fun e => h_to (by cases e; rfl))
  rw [decide_eq_false h_to];refine run ?_;exact Ab
 subst h_to;rw [decide_eq_true (p := a_to = a_to) rfl];by_cases h_text : a_text = b_text
 rotate_left
 ·obtain rfl : q = false := by rw [← hq]; exact decide_eq_false (fun e => h_text (by cases e; rfl))
  have e_text : (a_text == b_text) = false := by simpa using h_text
  refine Aa @e_text ?_;exact Ab
 subst h_text;by_cases h_bn : a_bn = b_bn
 rotate_left
 ·obtain rfl : q = false := by rw [← hq]; exact decide_eq_false (fun e => h_bn (by cases e; rfl))
  have e_bn : (a_bn == b_bn) = false := by simpa using h_bn
  refine Aa @e_bn ?_;exact Ab
 subst h_bn;by_cases h_bd : a_bd = b_bd
 rotate_left
 ·obtain rfl : q = false := by rw [← hq]; exact decide_eq_false (fun e => h_bd (by cases e; rfl))
  have e_bd : (a_bd == b_bd) = false := by simpa using h_bd
  refine Aa @e_bd ?_;exact Ab
 subst h_bd;by_cases h_bt : a_bt = b_bt
 rotate_left
 ·obtain rfl : q = false := by rw [← hq]; exact decide_eq_false (fun e => h_bt (by cases e; rfl))
  have e_bt : (a_bt == b_bt) = false := by simpa using h_bt
  refine Aa @e_bt ?_;exact Ab
 subst h_bt;by_cases h_epoch : a_epoch = b_epoch
 rotate_left
 ·obtain rfl : q = false := by rw [← hq]; exact decide_eq_false (fun e => h_epoch (by cases e; rfl))
  refine run ?_;exact Ab
 subst h_epoch;refine run ?_;refine cp (ZcE a_wraps b_wraps ha.2 hb.2) ?_;by_cases h_wraps : a_wraps = b_wraps
 rotate_left
 ·obtain rfl : q = false := by rw [← hq]; exact decide_eq_false (fun e => h_wraps (by cases e; rfl))
  rw [decide_eq_false h_wraps];refine run ?_;exact Ab
 subst h_wraps;rw [decide_eq_true (p := a_wraps = a_wraps) rfl];by_cases h_n : a_n = b_n
 rotate_left
 ·obtain rfl : q = false := by rw [← hq]; exact decide_eq_false (fun e => h_n (by cases e; rfl))
  refine run ?_;exact Ab
 subst h_n;by_cases h_m : a_m = b_m
 rotate_left
 ·obtain rfl : q = false := by rw [← hq]; exact decide_eq_false (fun e => h_m (by cases e; rfl))
  refine run ?_;exact Ab
 subst h_m;by_cases h_se : a_se = b_se
 rotate_left
 ·obtain rfl : q = false := by rw [← hq]; exact decide_eq_false (fun e => h_se (by cases e; rfl))
  refine run ?_;exact Ab
 subst h_se;by_cases h_ss : a_ss = b_ss
 rotate_left
 ·obtain rfl : q = false := by rw [← hq]; exact decide_eq_false (fun e => h_ss (by cases e; rfl))
  refine run ?_;exact Ab
 subst h_ss;obtain rfl : q = true := by rw [← hq]; exact decide_eq_true rfl
 refine run ?_;exact Ab
theorem ZdF (l : List By) (hl : l.length ≤ 1000000) : AC prog 54 [.sl .ro (l.map AV.st)] [] (.sl .ro (l.map AV.st)) [] := by
 cases l with
 | nil =>
  refine AC.empties fun A c => ?_
  refine AC.enter [] [] func54 rfl (by decide) (by decide) (Nat.le_of_ble_eq_true rfl) (by kernel_rfl) ?_; refine An ?_
  cases A with
  | none =>
   refine run ?_;exact Am
  | some A =>
   refine run ?_;exact Am
 | cons x l =>
  have hs1 : Ax 1 ((x :: l).map AV.st) = true := Bh 1 AV.st (fun _ => rfl) _
  have hl' : l.length ≤ 1000000 := by simp only [List.length_cons] at hl; omega
  simp only [List.map_cons] at hs1 ⊢;refine AC.enter [] [] func54 rfl (by decide) (by decide) (Nat.le_of_ble_eq_true rfl) (by kernel_rfl) ?_; refine An ?_
  refine Aa @hs1 ?_;exact Am
theorem ZdE (l : List Wrap) (hl : l.length ≤ 1000000) : AC prog 55 [.sl .ro (l.map Ba)] [] (.sl .ro (l.map Ba)) [] := by
 cases l with
 | nil =>
  refine AC.empties fun A c => ?_
  refine AC.enter [] [] func55 rfl (by decide) (by decide) (Nat.le_of_ble_eq_true rfl) (by kernel_rfl) ?_; refine An ?_
  cases A with
  | none =>
   refine run ?_;exact Am
  | some A =>
   refine run ?_;exact Am
 | cons x l =>
  have hs1 : Ax 5 ((x :: l).map Ba) = true := Bh 5 Ba (fun _ => rfl) _
  have hl' : l.length ≤ 1000000 := by simp only [List.length_cons] at hl; omega
  simp only [List.map_cons] at hs1 ⊢;refine AC.enter [] [] func55 rfl (by decide) (by decide) (Nat.le_of_ble_eq_true rfl) (by kernel_rfl) ?_; refine An ?_
  refine Aa @hs1 ?_;exact Am
theorem Ve (b : Box) (h : b.nonce.length ≤ 1000000 ∧ b.data.length ≤ 1000000 ∧ b.tag.length ≤ 1000000) : AC prog 281 [JF b] [] (.st (Zzd b)) [] := by
 refine AC.enter [158] [] func281 rfl (by decide) (by decide) (Nat.le_of_ble_eq_true rfl) (by kernel_rfl) ?_; refine An ?_
 have l1 := AG h.1;have l2 := AG h.2.1;have l3 := AG h.2.2;unfold Zzd;refine run ?_;refine cp (Dl b.nonce (by omega)) ?_
 refine run ?_;refine cp (Dl b.data (by omega)) ?_
 refine run ?_;refine cp (Dl b.tag (by omega)) ?_
 refine run ?_;exact Ab
theorem Lx (b : Box) (h : b.nonce.length ≤ 1000000 ∧ b.data.length ≤ 1000000 ∧ b.tag.length ≤ 1000000) : (Zzd b).length ≤ 3000027 := by
 have l1 := AG h.1;have l2 := AG h.2.1;have l3 := AG h.2.2;unfold Zzd;simp only [List.length_append];omega
theorem LP {w : Wrap} (h : Ca w = true) : (1 ≤ w.to ∧ w.to ≤ 2305843009213693950) ∧ (1 ≤ w.eph ∧ w.eph ≤ 2305843009213693950) ∧ w.box.nonce.length ≤ 1000000 ∧ w.box.data.length ≤ 1000000 ∧ w.box.tag.length ≤ 1000000 := by
 simp only [Ca, pub, Bool.and_eq_true, Bb] at h;have := Oh h.2;omega
theorem Xn {w : Wrap} (h : Ca w = true) : (B2 w).length ≤ 3000045 := by
 have h' := LP h;have := Lx w.box h'.2.2;have h1 := Aj w.to (by omega)
 have h2 := Aj w.eph (by omega)
 unfold B2;simp only [List.length_append];omega
theorem Qr {l : List Wrap} (hw : ∀ w ∈ l, Ca w = true) (hl : l.length ≤ 64) (k : Nat) : ((l.take k).map B2).flatten.length ≤ 192002880 := by
 have hx : ∀ m : List Wrap, (∀ w ∈ m, Ca w = true) → (m.map B2).flatten.length ≤ m.length * 3000045 := fun m => by
  induction m with
  | nil => intro _; simp
  | cons w m ih =>
   intro h;have h1 := Xn (h w (by simp))
   have h2 := ih fun x hx => h x (by simp [hx])
   rw [List.map_cons, List.flatten_cons, List.length_append, List.length_cons, Nat.succ_mul];omega
 have h1 := hx (l.take k) fun w h => hw w (List.mem_of_mem_take h)
 have h2 : (l.take k).length * 3000045 ≤ 64 * 3000045 := Nat.mul_le_mul_right _ (by rw [List.length_take]; omega)
 omega
def If (a : Ac.Act) : By :=
 text FL ++ text a.author ++ Ag a.seq ++ text a.prev ++ (Ag a.kind ++ Ag a.time ++ text a.object ++ text a.target) ++ (Ag a.scope ++ text a.group ++ list a.to ++ text a.text) ++ (Zzd a.body ++ Ag a.epoch ++ num a.wraps.length)
theorem Zdw (a : Ac.Act) : Gz a = If a ++ (a.wraps.map B2).flatten ++ Ag a.n ++ Ag a.m := by
 unfold Gz If;simp only [List.append_assoc]
theorem US (a : Ac.Act) (h : Sz a) : AC prog 188 [As a] [] (.st (AM a)) [] := by
 refine AC.enter [103, 158, 152, 280, 281] [] func188 rfl (by decide) (by decide) (Nat.le_of_ble_eq_true rfl) (by kernel_rfl) ?_; refine An ?_
 unfold AM;refine run ?_;refine cp (Oq a h) ?_;cases hr : right a with
 | false => rw [if_neg (by simp)]; refine run ?_; exact Ab
 | true =>
  rw [if_pos rfl];have sm := C0 hr;have q1 := AG (s := FL) (by simp)
  have q2 := AG (s := a.author) (by have := sm.author; omega)
  have q3 := Aj a.seq (by have := sm.seq; omega)
  have q4 := AG (s := a.prev) (by have := sm.prev; omega)
  have q5 := Aj a.kind (by have := sm.kind; omega)
  have q6 := Aj a.time (by have := sm.time; omega)
  have q7 := AG (s := a.object) (by have := sm.object; omega)
  have q8 := AG (s := a.target) (by have := sm.target; omega)
  have q9 := Aj a.scope (by have := sm.scope; omega)
  have q10 := AG (s := a.group) (by have := sm.group; omega)
  have q11 := OV (l := a.to) (by have := sm.to; omega) (fun x hx => by have := sm.to.2 x hx; omega)
  have q12 := AG (s := a.text) (by have := sm.text; omega)
  have q13 := Lx a.body (by have := sm.body; omega)
  have q14 := Aj a.epoch (by have := sm.epoch; omega)
  have q15 := DM (n := a.wraps.length) (by have := sm.wraps; omega)
  have q16 := Aj a.n (by have := sm.n; omega)
  have q17 := Aj a.m (by have := sm.m; omega)
  have k1 := Dl FL (by simp)
  have k2 := Dl a.author (by have := sm.author; omega)
  have k3 := Cm a.seq (by have := sm.seq; omega) (by have := sm.seq; omega)
  have k4 := Dl a.prev (by have := sm.prev; omega)
  have k5 := Cm a.kind (by have := sm.kind; omega) (by have := sm.kind; omega)
  have k6 := Cm a.time (by have := sm.time; omega) (by have := sm.time; omega)
  have k7 := Dl a.object (by have := sm.object; omega)
  have k8 := Dl a.target (by have := sm.target; omega)
  have k9 := Cm a.scope (by have := sm.scope; omega) (by have := sm.scope; omega)
  have k10 := Dl a.group (by have := sm.group; omega)
  have k11 := SN a.to (by have := sm.to; omega) (fun x hx => by have := sm.to.2 x hx; omega)
  have k12 := Dl a.text (by have := sm.text; omega)
  have k13 := Ve a.body (by have := sm.body; omega)
  have k14 := Cm a.epoch (by have := sm.epoch; omega) (by have := sm.epoch; omega)
  have k15 := Cm (a.wraps.length : Int) (by have := sm.wraps; omega) (by omega)
  rw [GT] at k15;have k16 := Cm a.n (by have := sm.n; omega) (by have := sm.n; omega)
  have k17 := Cm a.m (by have := sm.m; omega) (by have := sm.m; omega)
  have hwr := sm.wraps;have hlp : (If a).length ≤ 2000000000000 := by
   unfold If;simp only [List.length_append];omega
  rw [Zdw];have hsz : Ax 5 (a.wraps.map Ba) = true := Bh 5 Ba (fun _ => rfl) _
  clear hr sm h;refine run ?_;refine cp k1 ?_;refine run ?_;refine cp k2 ?_;refine run ?_;refine cp k3 ?_;refine run ?_;refine cp k4 ?_;refine run ?_;refine cp k5 ?_;refine run ?_;refine cp k6 ?_;refine run ?_;refine cp k7 ?_;refine run ?_;refine cp k8 ?_;refine run ?_;refine cp k9 ?_;refine run ?_;refine cp k10 ?_;refine run ?_;refine cp k11 ?_;refine run ?_;refine cp k12 ?_;refine run ?_;refine cp k13 ?_;refine run ?_;refine cp k14 ?_;refine run ?_;refine cp k15 ?_;clear k1 k2 k3 k4 k5 k6 k7 k8 k9 k10 k11 k12 k13 k14 k15;refine run ?_;refine AF (fun m e S => e 1 = .ptr 0 0 ∧ e 71 = .sl .ro (a.wraps.map Ba) ∧ e 72 = .it .i64 (a.wraps.length : Int) ∧ ∃ (k : Nat) (T : Ae), e 73 = .it .i64 (k : Int) ∧ e 3 = .st (If a ++ ((a.wraps.take k).map B2).flatten) ∧ S = .cells (FE a) :: T ∧ k ≤ a.wraps.length ∧ m = a.wraps.length - k) a.wraps.length
   ⟨Ad, Ad, Ad, 0, [], Ad, by rw [List.take_zero, List.map_nil, List.flatten_nil, List.append_nil]; exact Ad, rfl, by omega, rfl⟩ ?_
  clear q1 q2 q3 q4 q5 q6 q7 q8 q9 q10 q11 q12 q13 q14 q15;rintro m e S ⟨s1, s71, s72, k, T, s73, s3, rfl, hk, rfl⟩
  have hlen := Qr hwr.2 hwr.1 k;by_cases hlt : k < a.wraps.length
  rotate_left
  ·obtain rfl : k = a.wraps.length := by omega
   rw [List.take_length] at s3 hlen;generalize (a.wraps.map B2).flatten = z at *;generalize If a = p at *;refine Aa (A5 @s1 @s71 @s72 @s73 @s3) ?_;refine cp k16 ?_;refine Aa (A5 @s1 @s71 @s72 @s73 @s3) ?_;refine cp k17 ?_;refine Aa (A5 @s1 @s71 @s72 @s73 @s3) ?_;exact Ab
  have hg : a.wraps[k]? = some a.wraps[k] := List.getElem?_eq_getElem hlt
  have hx := hwr.2 a.wraps[k] (List.getElem_mem hlt);have hstep : ((a.wraps.take (k + 1)).map B2).flatten = ((a.wraps.take k).map B2).flatten ++ B2 a.wraps[k] := by
   rw [List.take_succ_eq_append_getElem hlt, List.map_append, List.flatten_append];congr 1
   exact List.append_nil _
  have hT1 : ∀ y : SObj, (T ++ [y])[T.length]? = some y := fun y => by simp
  have hT2 : ∀ y z : SObj, (T ++ [y]).set T.length z = T ++ [z] := fun y z => by simp
  generalize a.wraps[k] = x at *;have hx' := LP hx;have hbl := Lx x.box hx'.2.2;have hn1 := Aj x.to (by omega)
  have hn2 := Aj x.eph (by omega)
  generalize ((a.wraps.take k).map B2).flatten = z at *;generalize If a = p at *;have hwl := hwr.1;clear k16 k17 q16 q17 hwr;refine Aa (A9 @s1 @s71 @s72 @s73 @s3 @hg @hsz @hT1 @hT2) ?_;refine cp (Cm x.to (by omega) (by omega)) ?_
  refine Aa (A7 @s1 @s71 @s72 @s73 @s3 @hT1 @hT2) ?_;refine cp (Cm x.eph (by omega) (by omega)) ?_
  refine Aa (A7 @s1 @s71 @s72 @s73 @s3 @hT1 @hT2) ?_;refine cp (Ve x.box hx'.2.2) ?_;refine Aa (A7 @s1 @s71 @s72 @s73 @s3 @hT1 @hT2) ?_;exact Ao (a.wraps.length - (k + 1)) (by omega) ⟨Ad, Ad, Ad, k + 1, _, Ad, by rw [hstep]; unfold B2; simp only [List.append_assoc]; exact Ad, rfl, by omega, rfl⟩
theorem PO {a : Ac.Act} : (AM a).length ≤ 100000 := by
 unfold AM;split
 ·rename_i hr
  have sm := C0 hr;have q1 : (text FL).length = 4 := by rfl
  have tl : ∀ (s : By) (n : Nat), s.length ≤ n → n ≤ 1000 → (text s).length ≤ n + 9 := fun s n h h' => by
   have := DM (n := s.length) (by omega)
   unfold text;rw [List.length_append];omega
  have q2 := tl a.author 16 (by have := sm.author; omega) (by omega)
  have q3 := Aj a.seq (by have := sm.seq; omega)
  have q4 := tl a.prev 32 (by have := sm.prev; omega) (by omega)
  have q5 := Aj a.kind (by have := sm.kind; omega)
  have q6 := Aj a.time (by have := sm.time; omega)
  have q7 := tl a.object 32 (by have := sm.object; omega) (by omega)
  have q8 := tl a.target 16 (by have := sm.target; omega) (by omega)
  have q9 := Aj a.scope (by have := sm.scope; omega)
  have q10 := tl a.group 24 (by have := sm.group; omega) (by omega)
  have q12 := tl a.text 500 (by have := sm.text; omega) (by omega)
  have bl : ∀ b : Box, b.nonce.length ≤ 32 ∧ b.data.length ≤ 500 ∧ b.tag.length ≤ 16 → (Zzd b).length ≤ 575 := fun b h => by
   have l1 := tl b.nonce 32 h.1 (by omega)
   have l2 := tl b.data 500 h.2.1 (by omega)
   have l3 := tl b.tag 16 h.2.2 (by omega)
   unfold Zzd;simp only [List.length_append];omega
  have q13 := bl a.body sm.body;have q14 := Aj a.epoch (by have := sm.epoch; omega)
  have q15 := DM (n := a.wraps.length) (by have := sm.wraps; omega)
  have q16 := Aj a.n (by have := sm.n; omega)
  have q17 := Aj a.m (by have := sm.m; omega)
  have q11 : (list a.to).length ≤ 2000 := by
   have h1 := DM (n := a.to.length) (by have := sm.to; omega)
   have h2 : ∀ l : List By, (∀ s ∈ l, s.length = 16) → (l.map text).flatten.length ≤ l.length * 25 := fun l => by
    induction l with
    | nil => intro _; simp
    | cons s l ih =>
     intro h;have e1 := tl s 16 (by have := h s (by simp); omega) (by omega)
     have e2 := ih fun x hx => h x (by simp [hx])
     rw [List.map_cons, List.flatten_cons, List.length_append, List.length_cons, Nat.succ_mul];omega
   have h3 := h2 a.to sm.to.2;have h4 : a.to.length * 25 ≤ 64 * 25 := Nat.mul_le_mul_right _ sm.to.1;unfold list;rw [List.length_append];omega
  have q18 : (a.wraps.map B2).flatten.length ≤ 40000 := by
   have h2 : ∀ l : List Wrap, (∀ w ∈ l, Ca w = true) → (l.map B2).flatten.length ≤ l.length * 593 := fun l => by
    induction l with
    | nil => intro _; simp
    | cons w l ih =>
     intro h;have hw := h w (by simp)
     have hw2 := LP hw;simp only [Ca, Bool.and_eq_true] at hw;have hb := Oh hw.2;have e0 := bl w.box (by omega)
     have e1 := Aj w.to (by omega)
     have e2 := Aj w.eph (by omega)
     have e3 := ih fun x hx => h x (by simp [hx])
     have e4 : (B2 w).length ≤ 593 := by
      unfold B2;simp only [List.length_append];omega
     rw [List.map_cons, List.flatten_cons, List.length_append, List.length_cons, Nat.succ_mul];omega
   have h3 := h2 a.wraps sm.wraps.2;have h4 : a.wraps.length * 593 ≤ 64 * 593 := Nat.mul_le_mul_right _ sm.wraps.1;omega
  unfold Gz;simp only [List.length_append];omega
 ·simp
theorem Nj {a : Ac.Act} : (AM a).length ≤ 100000000 := Nat.le_trans PO (by omega)
theorem Nq {a : Ac.Act} : (Ac.bytes a).length ≤ 100018 := by
 unfold Ac.bytes;split
 ·rename_i hr
  have sm := (C0 hr).sig;simp only [AI, Bool.and_eq_true, Bb] at sm;have h := PO (a := a);unfold AM at h;rw [if_pos hr] at h;have n1 := Aj a.sig.e (by omega)
  have n2 := Aj a.sig.s (by omega)
  simp only [List.length_append];omega
 ·simp
theorem Zd2 (a : Ac.Act) (h : Sz a) : AC prog 120 [As a] [] (.st (Ac.bytes a)) [] := by
 refine AC.enter [188, 152] [] func120 rfl (by decide) (by decide) (Nat.le_of_ble_eq_true rfl) (by kernel_rfl) ?_; refine An ?_
 have hl := Nj (a := a);rw [Zd1];refine run ?_;refine cp (US a h) ?_;by_cases hc : AM a = []
 ·rw [if_pos hc]
  rw [hc];refine run ?_;exact Ab
 ·rw [if_neg hc]
  have hb : (AM a == []) = false := by simpa using hc
  have hr : right a = true := by
   cases hr : right a with
   | true => rfl
   | false => exact absurd (bytes_wrong hr).2 hc
  have hs := (C0 hr).sig;simp only [AI, Bool.and_eq_true, Bb] at hs;have n1 := Aj a.sig.e (by omega)
  have n2 := Aj a.sig.s (by omega)
  generalize AM a = c at *;refine Aa @hb ?_;refine cp (Cm a.sig.e (by omega) (by omega)) ?_
  refine Aa @hb ?_;refine cp (Cm a.sig.s (by omega) (by omega)) ?_
  refine Aa @hb ?_;exact Ab
theorem XF (p : Int) (a : Ac.Act) (h : Sz a) (hp : -9223372036854775808 ≤ p ∧ p ≤ 9223372036854775807) : AC prog 112 [.it .i64 p, As a] [] (.bo (C7 p a)) [] := by
 refine AC.enter [103, 188, 92] [] func112 rfl (by decide) (by decide) (Nat.le_of_ble_eq_true rfl) (by kernel_rfl) ?_; refine An ?_
 unfold C7;have hl := Nj (a := a);refine run ?_;refine cp (Oq a h) ?_;cases hr : right a with
 | false => refine run ?_; exact Ab
 | true =>
  have hs := (C0 hr).sig;simp only [AI, Bool.and_eq_true, Bb] at hs;refine run ?_;refine cp (US a h) ?_;refine run ?_;refine cp (JX p (AM a) a.sig hl hp (by omega)) ?_
  refine run ?_;exact Ab
end Pe
end
section
namespace Pe
open Tryz
open Go Go.RowKit
variable [Tab]
def B5 (md : Region.Mode) (ops : Array Oper) (k : Nat) : Nat → Nat → Bool
 | 0, j => j == k
 | n + 1, j => j == k || (match ops[j]? with
  | none => false
  | some oj => oj.after.any fun e => Region.binds md e && B5 md ops k n e.on)
theorem UH {md : Region.Mode} {ops : Array Oper} {k : Nat} {listed : Array Bool} (hinv : ∀ n j, B5 md ops k n j = true → listed.getD j true = false) {j : Nat} (hj : j ∈ Region.ready md ops listed) (hne : j ≠ k) (n : Nat) : B5 md ops k n j = false := by
 have h0 : (j == k) = false := by simpa using hne
 cases n with
 | zero => exact h0
 | succ n =>
  obtain ⟨_, oj, hoj, hall⟩ := mem_ready.1 hj;cases hd : B5 md ops k (n + 1) j with
  | false => rfl
  | true =>
   exfalso;unfold B5 at hd;rw [h0, hoj, Bool.false_or] at hd;simp only at hd
   rw [Array.any_eq_true'] at hd;obtain ⟨e, he, h2⟩ := hd;simp only [Bool.and_eq_true] at h2;have h3 := hinv n e.on h2.2;have h1 := hall e he h2.1;rcases Nat.lt_or_ge e.on listed.size with h' | h'
   ·simp [h'] at h3 h1; rw [h3] at h1; cases h1
   ·simp [Array.getElem?_eq_none h'] at h1
def M3 (cls : Op → Cls) (md : Region.Mode) (ops : Array Oper) (listed : Array Bool) (k : Nat) : Bool :=
 match ops[k]? with
 | none => false
 | some ok => (List.range ops.size).all fun j =>
  match ops[j]? with
  | none => true
  | some oj => j == k || listed.getD j true || B5 md ops k 8 j || FV cls ops ok oj
def O2 (md : Region.Mode) (ops : Array Oper) : Bool := (List.range ops.size).all fun j => match ops[j]? with
 | none => true
 | some oj => oj.after.all fun e => !Region.binds md e || decide (e.on < j)
theorem Za7 {md : Region.Mode} {ops : Array Oper} (h : O2 md ops = true) (k : Nat) : ∀ n j, B5 md ops k n j = true → k ≤ j := by
 intro n;induction n with
 | zero => intro j hj; unfold B5 at hj; have := beq_iff_eq.1 hj; omega
 | succ n ih =>
  intro j hj;unfold B5 at hj;rw [Bool.or_eq_true] at hj;rcases hj with hj | hj
  ·have := beq_iff_eq.1 hj; omega
  ·cases ho : ops[j]? with
   | none => rw [ho] at hj; cases hj
   | some oj =>
    rw [ho] at hj;simp only at hj
    rw [Array.any_eq_true'] at hj;obtain ⟨e, he, h2⟩ := hj;simp only [Bool.and_eq_true] at h2;have h3 := ih e.on h2.2;have hlt : j < ops.size := (Array.getElem?_eq_some_iff.1 ho).1
    have h4 := (List.all_eq_true.1 h) j (List.mem_range.2 hlt);rw [ho] at h4;simp only at h4
    have h5 := (Array.all_eq_true_iff_forall_mem.1 h4) e he;rw [h2.1] at h5
    have : e.on < j := by simpa using h5
    omega
def K9 (cls : Op → Cls) (md : Region.Mode) (ops : Array Oper) : Nat → Nat → Array Bool → Bool
 | 0, _, listed => (Region.ready md ops listed).isEmpty
 | fuel + 1, k, listed => (Region.ready md ops listed).contains k && M3 cls md ops listed k && K9 cls md ops fuel (k + 1) (listed.setIfInBounds k true)
def MQ (cls : Op → Cls) (ops : Array Oper) : Bool := O2 .any ops && K9 cls .any ops ops.size 0 (Array.replicate ops.size false)
theorem TD {cls : Op → Cls} {md : Region.Mode} {ops : Array Oper} {listed : Array Bool} {k : Nat} {ok : Oper} (hk : ops[k]? = some ok) (h : M3 cls md ops listed k = true) :
  ∀ (j : Nat) oj, ops[j]? = some oj → j ≠ k → listed.getD j true = false → (∀ n, B5 md ops k n j = false) → FV cls ops ok oj = true := by
 intro j oj hj hne hun hno;unfold M3 at h;rw [hk] at h;simp only at h
 have hlt : j < ops.size := (Array.getElem?_eq_some_iff.1 hj).1
 have h1 := (List.all_eq_true.1 h) j (List.mem_range.2 hlt);rw [hj] at h1;simp only [Bool.or_eq_true, beq_iff_eq] at h1;rcases h1 with ((h1 | h1) | h1) | h1
 ·exact absurd h1 hne
 ·rw [hun] at h1; cases h1
 ·rw [hno 8] at h1; cases h1
 ·exact h1
section
variable {P : Program} {N N0 : Nat} {w0 : World} {g0 : Gh} {pf rf : List FuncId}
theorem QF {cls : Op → Cls} {md : Region.Mode} {ops : Array Oper} {Q : Af → Ae → Prop} {i : Nat} {oi : Oper} {v : AV} (hi : ops[i]? = some oi) :
  ∀ (fuel : Nat) (listed : Array Bool) (e : Af) (S Si : Ae),
   (∀ n j, B5 md ops i n j = true → listed.getD j true = false) →
   (∀ (j : Nat) oj, ops[j]? = some oj → j ≠ i → listed.getD j true = false → (∀ n, B5 md ops i n j = false) → FV cls ops oi oj = true) →
   i ∈ Region.ready md ops listed → IU P cls ops oi e S v Si →
   Di P cls md ops Q fuel (listed.setIfInBounds i true) (Pe.put e oi.dst v) Si → Di P cls md ops Q (fuel + 1) listed e S := by
 intro fuel;induction fuel with
 | zero =>
  intro listed e S Si _ _ hr hy H;refine ⟨fun h => (by rw [h] at hr; cases hr), fun j hj => ?_⟩
  by_cases hji : j = i
  ·subst hji; exact hy.xOp hi H
  ·have := ready_mono hj hji
   rw [H.1] at this;cases this
 | succ fuel ih =>
  intro listed e S Si hinv hfree hr hy H;refine ⟨fun h => (by rw [h] at hr; cases hr), fun j hj => ?_⟩
  by_cases hji : j = i
  ·subst hji; exact hy.xOp hi H
  ·have h1 := H.2 j (ready_mono hj hji)
   have hnd := UH hinv hj hji;obtain ⟨hjun, oj, hoj, hall⟩ := mem_ready.1 hj;have h2 := Qo hoj (hfree j oj hoj hji hjun hnd) hy h1;have hinv' : ∀ n k, B5 md ops i n k = true → (listed.setIfInBounds j true).getD k true = false := fun n k hk => by
    have hjk : j ≠ k := fun e => by rw [← e, hnd n] at hk; cases hk
    rw [getD_set_ne true hjk];exact hinv n k hk
   have hfree' : ∀ (k : Nat) ok, ops[k]? = some ok → k ≠ i → (listed.setIfInBounds j true).getD k true = false →
     (∀ n, B5 md ops i n k = false) → FV cls ops oi ok = true := fun k ok hk hki hun hno => by
    refine hfree k ok hk hki ?_ hno
    by_cases hjk : j = k
    ·subst hjk; exact hjun
    ·rw [getD_set_ne true hjk] at hun; exact hun
   refine Qp (fun e' S' h3 => ?_) h2
   obtain ⟨Si', h3, h4⟩ := h3;refine ih (listed.setIfInBounds j true) e' S' Si' hinv' hfree' (ready_mono hr (Ne.symm hji)) h3 ?_
   rw [Array.setIfInBounds_comm _ _ hji];exact h4
theorem QD {cls : Op → Cls} {md : Region.Mode} {ops : Array Oper} {Q : Af → Ae → Prop} (hlate : O2 md ops = true) : ∀ (l : List Oper) (k : Nat) (listed : Array Bool) (e : Af) (S : Ae), (∀ j, l[j]? = ops[k + j]?) →
  (∀ j, k ≤ j → j < ops.size → listed.getD j true = false) → listed.size = ops.size →
  K9 cls md ops l.length k listed = true → CG P cls ops Q l e S → Di P cls md ops Q l.length listed e S
 | [], _, _, _, _, _, _, _, hB, h => ⟨by simpa [K9] using hB, h⟩
 | o :: l, k, listed, e, S, hl, hun, hsz, hB, h => by
  have h0 : ops[k]? = some o := by simpa using (hl 0).symm
  simp only [List.length_cons, K9, Bool.and_eq_true] at hB;obtain ⟨⟨hr, hf⟩, hB'⟩ := hB;have hst : xOp P cls ops k (CG P cls ops Q l) e S := by unfold xOp; simp only [h0]; exact h
  obtain ⟨v, S', hy, hK⟩ := NO h0 hst;have hks : k < ops.size := (Array.getElem?_eq_some_iff.1 h0).1
  refine QF h0 l.length listed e S S' (fun n j hj => ?_) (TD h0 hf) (by simpa using hr) hy
   (QD hlate l (k + 1) _ _ _ (fun j => by have := hl (j + 1); simpa [Nat.add_assoc, Nat.add_comm 1 j] using this) (fun j h1 h2 => ?_) (by simpa using hsz) hB' hK)
  ·refine hun j (Za7 hlate k n j hj) ?_
   cases n with
   | zero => unfold B5 at hj; have := beq_iff_eq.1 hj; omega
   | succ n =>
    unfold B5 at hj;rw [Bool.or_eq_true] at hj;rcases hj with hj | hj
    ·have := beq_iff_eq.1 hj; omega
    ·cases ho : ops[j]? with
     | none => rw [ho] at hj; cases hj
     | some oj => exact (Array.getElem?_eq_some_iff.1 ho).1
  ·rw [getD_set_ne true (by omega)]
   exact hun j (by omega) h2
theorem RC {ro : Option Nat} {cls : Op → Cls} {ops : Array Oper} {id : Nat} {Q : Af → Ae → Prop} {Q' : Exit → Act → World → Prop} {e : Af} {S : Ae} {a : Act} {w : World} (hm : P.follows .mixedOrders = true) (hB : MQ cls ops = true) (hds : Db N ops = true)
  (hQ : ∀ e S a w, AJ N w0 g0 e S a w → Q e S → Q' .normal a w) (hc : AJ N w0 g0 e S a w) (h : CG P cls ops Q ops.toList e S) : (Code.region id ops true).wpIn (wR ro) 0 P Q' a w := by
 refine wpIn_region_any hm (GI ro (cls := cls) hds hQ _ _ e S a _ (hc.draw _) ?_)
 simp only [MQ, Bool.and_eq_true] at hB;have := QD (md := .any) hB.1 ops.toList 0 (Array.replicate ops.size false) e S (by simp) (fun j _ hj => by simp [hj]) (by simp) (by simpa using hB.2) h
 simpa using this
end
def Fc (P : Program) (pf rf : List FuncId) (N : Nat) : Code → Bool
 | .region _ ops draw => Db N ops && (!draw || MQ (AT P pf rf) ops)
 | .seq a b => Fc P pf rf N a && Fc P pf rf N b
 | .cond _ a b => Fc P pf rf N a && Fc P pf rf N b
 | .block _ b => Fc P pf rf N b
 | .loop b => Fc P pf rf N b
 | _ => true
section
variable {P : Program} {N N0 : Nat} {w0 : World} {g0 : Gh} {pf rf : List FuncId}
theorem Ze7 {ro : Option Nat} (hm : P.follows .mixedOrders = true) (hN0 : g0.nid = N0) : ∀ (c : Code) (Q : AX → Af → Ae → Prop) (e : Af) (S : Ae) (a : Act) (w : World), Fc P pf rf N c = true → AJ N w0 g0 e S a w → AW P pf rf N0 (DS c) Q e S → c.wpIn (wR ro) 0 P (ED N w0 g0 Q) a w := by
 intro c;induction c with
 | skip => intro Q e S a w _ hc h; exact wpIn_skip ⟨e, S, hc, h⟩
 | label l => intro Q e S a w _ hc h; exact wpIn_label ⟨e, S, hc, h⟩
 | ret => intro Q e S a w _ hc h; exact wpIn_ret ⟨e, S, hc, h⟩
 | exit id => intro Q e S a w _ hc h; exact wpIn_exit ⟨e, S, hc, h⟩
 | region id ops draw =>
  intro Q e S a w hok hc h;simp only [Fc, Bool.and_eq_true] at hok;simp only [DS, Cn, AW] at h;have hL := EU ops.toList e S h;have hQ : ∀ e S a w, AJ N w0 g0 e S a w → Q .norm e S → ED N w0 g0 Q .normal a w := fun e S a w hc hq => ⟨e, S, hc, hq⟩
  cases draw with
  | false => exact Mu hok.1 hQ hc hL ro
  | true => exact RC hm (by simpa using hok.2) hok.1 hQ hc hL
 | seq x y ihx ihy =>
  intro Q e S a w hok hc h;simp only [Fc, Bool.and_eq_true] at hok;simp only [DS, Cn, AW] at h;refine wpIn_seq (Go.wpIn_mono (ihx _ e S a w hok.1 hc h) ?_)
  intro ex a' w' hq;cases ex with
  | normal => obtain ⟨e', S', hc', h'⟩ := hq; exact ihy Q e' S' a' w' hok.2 hc' h'
  | exit id => exact hq
  | ret => exact hq
  | _ => exact hq.elim
 | cond c x y ihx ihy =>
  intro Q e S a w hok hc h;simp only [Fc, Bool.and_eq_true] at hok;simp only [DS, Cn, AW] at h;split at h
  ·rename_i b hb
   have hcb : a.eval c = .bool b := by
    obtain ⟨_, _, g, _, h4, _⟩ := hc;have := JC h4 c;rw [hb] at this;cases hv : a.eval c <;> rw [hv] at this <;> cases this
    rfl
   refine wpIn_cond_split hcb (fun ht => ihx Q e S a w hok.1 hc (h.1 ht)) (fun hf => ihy Q e S a w hok.2 hc (h.2 hf))
  ·exact h.elim
 | block id c ih =>
  intro Q e S a w hok hc h;simp only [DS, Cn, AW] at h;refine wpIn_block (Go.wpIn_mono (ih _ e S a w hok hc h) ?_)
  intro ex a' w' hq;cases ex with
  | normal => exact hq
  | exit i =>
   obtain ⟨e', S', hc', h'⟩ := hq;simp only [Ee] at h';simp only [Exit.inBlock];by_cases hi : i = id
   ·rw [if_pos hi] at h' ⊢; exact ⟨e', S', hc', h'⟩
   ·rw [if_neg hi] at h' ⊢; exact ⟨e', S', hc', h'⟩
  | ret => exact hq
  | _ => exact hq.elim
 | loop c ih =>
  intro Q e S a w hok hc h;simp only [DS, Cn, AW] at h;obtain ⟨I, ⟨n, e', S', hwk, hI⟩, hround⟩ := h;refine JU (fun n a w => ∃ e S, AJ N w0 g0 e S a w ∧ I n e S) n ⟨e', S', hwk N w0 g0 a w hN0 hc, hI⟩ ?_
  rintro n a w ⟨e, S, hc, hI⟩
  refine Go.wpIn_mono (ih _ e S a w hok hc (hround n e S hI)) ?_
  intro ex a' w' hq;cases ex with
  | normal =>
   obtain ⟨e1, S1, hc1, n', e2, S2, hlt, hwk', hI'⟩ := hq;exact ⟨n', hlt, e2, S2, hwk' N w0 g0 a' w' hN0 hc1, hI'⟩
  | exit i => exact hq
  | ret => exact hq
  | _ => exact hq.elim
 | _ => intro Q e S a w _ _ h; exact h.elim
end
section
variable {P : Program}
theorem AC.enter2 {f : FuncId} {fn : Func} {c : Code} {args : List AV} {S S' : Ae} {v : AV} (pf rf : List FuncId) (hf : P.funcs[f]? = some fn) (hb : fn.body = some c) (hname : fn.name ≠ "runtime.NumGoroutine") (hm : P.follows .mixedOrders = true)
  (hn : args.length ≤ fn.ntmps) (hok : Fc P pf rf fn.ntmps c = true) (h : AW P pf rf S.length (DS c) (CO P fn.results.toList S.length v S') (Ex args) S) : AC P f args S v S' := by
 exact AC.of_wp hf hb hname hn fun w g a hg hc => Ze7 hm hg c _ (Ex args) S a w hok hc h
end
end Pe
namespace Pe
open Tryz
open Go Go.RowKit
set_option maxRecDepth 100000
theorem Ar {P : Program} [Tab] {f : FuncId} {fn : Func} {c : Code} {args : List AV} {S S' : Ae} {v : AV} (pf rf : List FuncId) (hf : P.funcs[f]? = some fn) {B : Prop} (h : B) (hb : fn.body = some c := by rfl) (hname : fn.name ≠ "runtime.NumGoroutine" := by decide) (hm : P.follows .mixedOrders = true := by decide) (hn : args.length ≤ fn.ntmps := by exact Nat.le_of_ble_eq_true rfl) (hok : Ew P pf rf fn.ntmps c = true := by kernel_rfl) (e : AW P pf rf S.length (DS c) (CO P fn.results.toList S.length v S') (Ex args) S = B := by
    conv =>
      lhs
      simp only [DS, Cn, C9, List.map_cons, List.map_nil, List.map_toArray, List.getElem?_toArray, List.getElem?_cons_zero, List.getElem?_cons_succ, Option.bind_some, Option.bind_none, List.append_eq, List.cons_append, List.nil_append]) : AC P f args S v S' := AC.enter pf rf hf hb hname hm hn hok (e ▸ h)
theorem Ai {P : Program} [Tab] {f : FuncId} {fn : Func} {c : Code} {args : List AV} {S S' : Ae} {v : AV} (pf rf : List FuncId) (hf : P.funcs[f]? = some fn) {B : Prop} (h : B) (hb : fn.body = some c := by rfl) (hname : fn.name ≠ "runtime.NumGoroutine" := by decide) (hm : P.follows .mixedOrders = true := by decide) (hn : args.length ≤ fn.ntmps := by exact Nat.le_of_ble_eq_true rfl) (hok : Fc P pf rf fn.ntmps c = true := by kernel_rfl) (e : AW P pf rf S.length (DS c) (CO P fn.results.toList S.length v S') (Ex args) S = B := by
    conv =>
      lhs
      simp only [DS, Cn, C9, List.map_cons, List.map_nil, List.map_toArray, List.getElem?_toArray, List.getElem?_cons_zero, List.getElem?_cons_succ, Option.bind_some, Option.bind_none, List.append_eq, List.cons_append, List.nil_append]) : AC P f args S v S' := AC.enter2 pf rf hf hb hname hm hn hok (e ▸ h)
end Pe
end
end Go.Proofs.YtiidnoejnphocaaGreatDoor
