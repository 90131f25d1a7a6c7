/- A part. -/
import Derived.Test.YtldohjjoicmfpaaGreatDoorKr12
import Derived.Lib.DecodeN
set_option linter.unusedSectionVars false
set_option linter.unusedVariables false
set_option linter.unusedSimpArgs false
namespace Go.Proofs.YtldohjjoicmfpaaGreatDoor
section
namespace Pe
open Tryz
open Go Co Ac
variable [Tab]
set_option maxRecDepth 100000
theorem Zd8 (n b0 b1 b2 b3 : Nat) (h : 128 ≤ b0) : 128 ≤ (Lib.decodeN n b0 b1 b2 b3).1 := by
 unfold Lib.decodeN;rw [if_neg (by omega)]
 split
 ·split
  ·assumption
  ·decide
 split
 ·split
  ·rename_i h; exact Nat.le_trans (by decide) h.1
  ·decide
 split
 ·split
  ·rename_i h; exact Nat.le_trans (by decide) h.1
  ·decide
 ·decide
theorem Rj (l : By) (i : Nat) (h : i < l.length) : ∃ r w, Es l i = (r, w) ∧ (l[i].toNat < 128 → r = l[i].toNat ∧ w = 1) ∧ (128 ≤ l[i].toNat → 128 ≤ r) := by
 have hg : ((⟨l.toArray⟩ : ByteArray).get! i).toNat = l[i].toNat := by
  show (l.toArray[i]!).toNat = _
  rw [getElem!_pos l.toArray i (by simpa using h)]
  simp
 have e : ∃ n b1 b2 b3, Es l i = Lib.decodeN n l[i].toNat b1 b2 b3 := by
  unfold Es;rw [Lib.decode_at, hg];exact ⟨_, _, _, _, rfl⟩
 obtain ⟨n, b1, b2, b3, e⟩ := e;refine ⟨(Es l i).1, (Es l i).2, rfl, fun hb => ?_, fun hb => ?_⟩
 ·rw [e]
  unfold Lib.decodeN;rw [if_pos hb];exact ⟨rfl, rfl⟩
 ·rw [e]
  exact Zd8 _ _ _ _ _ hb
theorem Kx (n : Int) : AC prog 212 [.it .i32 n] [] (.bo (decide (48 ≤ n) && decide (n ≤ 57))) [] := by
 refine Ai [] [] func212 ?_;by_cases h : 48 ≤ n
 ·rw [decide_eq_true h]
  refine run ?_;exact Ab
 ·rw [decide_eq_false h]
  refine run ?_;exact Ab
theorem Jl (s : By) (hs : s.length ≤ 140737488355328) : AC prog 159 [.st s] [] (.bo (Ax s)) [] := by
 refine Ai [212] [] func159 ?_;unfold Ax;by_cases hl : s.length = 16
 rotate_left
 ·rw [decide_eq_false hl]
  refine run ?_;exact Ab
 rw [decide_eq_true hl];refine run ?_;refine Bp (fun m e S => e 0 = .st s ∧ e 9 = .ptr 0 0 ∧ ∃ k : Nat, S = [.siter s k] ∧ k ≤ s.length ∧ (s.take k).all EQ = true ∧ m = s.length - k) s.length ⟨Ad, Ad, 0, rfl, by omega, rfl, rfl⟩ ?_
 rintro m e S ⟨s0, s9, k, rfl, hk, hall, rfl⟩
 by_cases hlt : k < s.length
 rotate_left
 ·obtain rfl : k = s.length := by omega
  rw [List.take_length] at hall;rw [hall];refine Aa (A3 s0 s9 hlt) ?_;exact Ab
 obtain ⟨r, w, hr, h1, h2⟩ := Rj s k hlt;have hx : EQ s[k] = true ↔ (48 ≤ r ∧ r ≤ 57) ∨ (97 ≤ r ∧ r ≤ 102) := by
  unfold EQ;simp only [Bool.or_eq_true, Bool.and_eq_true, decide_eq_true_eq];by_cases h : s[k].toNat < 128
  ·rw [(h1 h).1]
  ·have := h2 (by omega); omega
 have hstep : s.take (k + 1) = s.take k ++ [s[k]] := List.take_succ_eq_append_getElem hlt;have hbad : EQ s[k] = false → s.all EQ = false := fun h => List.all_eq_false.2 ⟨s[k], List.getElem_mem hlt, by simp [h]⟩
 have hgood : EQ s[k] = true → w = 1 := fun h => by
  refine (h1 ?_).2
  refine Nat.lt_of_not_le fun h' => ?_
  have := h2 h';have := hx.1 h;omega
 generalize s[k] = b at *;clear h1 h2;cases hb : EQ b with
 | true =>
  obtain rfl := hgood hb;have hc := hx.1 hb;refine Aa (A4 s0 s9 hlt hr) ?_;refine cp (Kx r) ?_;rcases hc with ⟨c1, c2⟩ | ⟨c1, c2⟩
  ·refine Aa (an s0 s9) ?_
   exact AG (s.length - (k + 1)) (by omega) ⟨Ad, Ad, k + 1, rfl, by omega, by rw [hstep, List.all_append, hall]; simp [hb], rfl⟩
  ·refine Aa (an s0 s9) ?_
   exact AG (s.length - (k + 1)) (by omega) ⟨Ad, Ad, k + 1, rfl, by omega, by rw [hstep, List.all_append, hall]; simp [hb], rfl⟩
 | false =>
  rw [hbad hb];have hc : ¬ ((48 ≤ r ∧ r ≤ 57) ∨ (97 ≤ r ∧ r ≤ 102)) := fun h => by rw [hx.2 h] at hb; cases hb
  clear hbad hgood hx;refine Aa (A4 s0 s9 hlt hr) ?_;refine cp (Kx r) ?_;by_cases c1 : r < 48
  ·refine Aa (an s0 s9) ?_
   exact Ab
  by_cases c2 : r < 97
  ·refine Aa (an s0 s9) ?_
   exact Ab
  ·refine Aa (an s0 s9) ?_
   exact Ab
theorem SS {s : By} {k : Nat} (hk : k < s.length) (h : (if k = 0 then Cy s[k] else CU s[k]) = false) : BY s = false := by
 cases s with
 | nil => rfl
 | cons c r =>
  show (decide (r.length ≤ 23) && Cy c && r.all CU) = false
  cases k with
  | zero => simp at h; simp [h]
  | succ k =>
   simp only [List.getElem_cons_succ, Nat.add_one_ne_zero, if_false] at h
   have : r.all CU = false := List.all_eq_false.2 ⟨_, List.getElem_mem (by simpa using hk), by rw [h]; simp⟩
   rw [this];simp
theorem SQ {s : By} (h0 : 0 < s.length) (hl : s.length ≤ 24) (h : ∀ j (hj : j < s.length), (if j = 0 then Cy s[j] else CU s[j]) = true) : BY s = true := by
 cases s with
 | nil => simp at h0
 | cons c r =>
  show (decide (r.length ≤ 23) && Cy c && r.all CU) = true
  have h1 := h 0 (by simp)
  simp only [List.getElem_cons_zero, if_true] at h1;have h2 : r.all CU = true := List.all_eq_true.2 fun x hx => by
   obtain ⟨j, hj, rfl⟩ := List.getElem_of_mem hx;have := h (j + 1) (by simp; omega)
   simpa using this
  simp only [List.length_cons] at hl;rw [h1, h2, decide_eq_true (by omega)]
  rfl
theorem SR {s : By} (h : 24 < s.length) : BY s = false := by
 cases s with
 | nil => rfl
 | cons c r =>
  simp only [List.length_cons] at h;show (decide (r.length ≤ 23) && Cy c && r.all CU) = false
  rw [decide_eq_false (by omega)]
  rfl
set_option maxHeartbeats 1600000 in
theorem Mu (s : By) (hs : s.length ≤ 140737488355328) : AC prog 221 [.st s] [] (.bo (BY s)) [] := by
 refine Ai [212] [] func221 ?_;by_cases h0 : s = []
 ·subst h0
  rw [show BY [] = false from rfl]
  refine run ?_;exact Ab
 have hne : (s == []) = false := by simpa using h0
 have hpos : 0 < s.length := List.length_pos_iff.2 h0;by_cases hl : 24 < s.length
 ·rw [SR hl]
  refine Aa hne ?_;exact Ab
 refine Aa hne ?_;refine Bp (fun m e S => e 0 = .st s ∧ e 14 = .ptr 0 0 ∧ ∃ k : Nat, S = [.siter s k] ∧ k ≤ s.length ∧ (∀ j (hj : j < s.length), j < k → (if j = 0 then Cy s[j] else CU s[j]) = true) ∧ m = s.length - k) s.length ⟨Ad, Ad, 0, rfl, by omega, fun j _ h => absurd h (Nat.not_lt_zero _), rfl⟩ ?_
 rintro m e S ⟨s0, s14, k, rfl, hk, hall, rfl⟩
 by_cases hlt : k < s.length
 rotate_left
 ·rw [SQ hpos (by omega) fun j hj => hall j hj (by omega)]
  refine Aa (A3 s0 s14 hlt) ?_;exact Ab
 obtain ⟨r, w, hr, h1, h2⟩ := Rj s k hlt;have hx : (if k = 0 then Cy s[k] else CU s[k]) = true ↔ (97 ≤ r ∧ r ≤ 122) ∨ (k ≠ 0 ∧ ((48 ≤ r ∧ r ≤ 57) ∨ r = 95)) := by
  have h3 : s[k].toNat = r ∨ (128 ≤ s[k].toNat ∧ 128 ≤ r) := by
   by_cases h : s[k].toNat < 128
   ·exact .inl (h1 h).1.symm
   ·exact .inr ⟨by omega, h2 (by omega)⟩
  split
  ·rename_i hk0
   simp only [Cy, Bool.and_eq_true, decide_eq_true_eq];omega
  ·rename_i hk0
   simp only [CU, Cy, Bool.or_eq_true, Bool.and_eq_true, decide_eq_true_eq];omega
 have hbad := fun h => SS (s := s) (k := k) hlt h
 have hgood : (if k = 0 then Cy s[k] else CU s[k]) = true → w = 1 := fun h => by
  refine (h1 ?_).2
  refine Nat.lt_of_not_le fun h' => ?_
  have := h2 h';have := hx.1 h;omega
 have hnext : (if k = 0 then Cy s[k] else CU s[k]) = true → ∀ j (hj : j < s.length), j < k + 1 → (if j = 0 then Cy s[j] else CU s[j]) = true := fun h j hj hjk => by
  by_cases e : j = k
  ·subst e; exact h
  ·exact hall j hj (by omega)
 generalize (if k = 0 then Cy s[k] else CU s[k]) = b at *
 clear h1 h2;cases b with
 | true =>
  obtain rfl := hgood rfl;have hc := hx.1 rfl;have hn := hnext rfl;clear hbad hgood hx hnext;rcases hc with c1 | ⟨c0, c1⟩
  ·refine Aa (A4 s0 s14 hlt hr) ?_
   exact AG (s.length - (k + 1)) (by omega) ⟨Ad, Ad, k + 1, rfl, by omega, hn, rfl⟩
  ·have c00 : ¬ ((k : Int) = 0) := by omega
   by_cases cl : r < 97
   focus
    refine Aa (A4 s0 s14 hlt hr) ?_;refine cp (Kx r) ?_;rcases c1 with c1 | c1
    ·refine Aa (an s0 s14) ?_
     exact AG (s.length - (k + 1)) (by omega) ⟨Ad, Ad, k + 1, rfl, by omega, hn, rfl⟩
    ·subst c1
     refine Aa (an s0 s14) ?_;exact AG (s.length - (k + 1)) (by omega) ⟨Ad, Ad, k + 1, rfl, by omega, hn, rfl⟩
   exact absurd c1 (by omega)
 | false =>
  rw [hbad rfl];have hc : ¬ ((97 ≤ r ∧ r ≤ 122) ∨ (k ≠ 0 ∧ ((48 ≤ r ∧ r ≤ 57) ∨ r = 95))) := fun h => by have := hx.2 h; cases this
  clear hbad hgood hx hnext hall;by_cases hk0 : k = 0
  ·subst hk0
   by_cases c1 : r < 97
   ·refine Aa (A4 s0 s14 hlt hr) ?_
    exact Ab
   ·refine Aa (A4 s0 s14 hlt hr) ?_
    exact Ab
  by_cases c1 : r < 97
  focus
   refine Aa (A4 s0 s14 hlt hr) ?_;refine cp (Kx r) ?_;by_cases c2 : r < 48
   ·refine Aa (an s0 s14) ?_
    exact Ab
   ·refine Aa (an s0 s14) ?_
    exact Ab
  focus
   refine Aa (A4 s0 s14 hlt hr) ?_;refine cp (Kx r) ?_;refine Aa (an s0 s14) ?_;exact Ab
theorem PF : ∀ {l : List By}, (∀ j (h : j + 1 < l.length), (Op.bytesLess l[j + 1] l[j] || l[j + 1] == l[j]) = false) → IC l = true
 | [], _ => rfl
 | [_], _ => rfl
 | a :: b :: r, h => by
  unfold IC;have h0 := h 0 (by simp)
  simp only [List.getElem_cons_succ, List.getElem_cons_zero] at h0;rw [h0, PF fun j hj => by
   have := h (j + 1) (by simp at hj ⊢; omega)
   simpa using this]
  rfl
theorem PG : ∀ {l : List By} {j : Nat} (h : j + 1 < l.length), (Op.bytesLess l[j + 1] l[j] || l[j + 1] == l[j]) = true → IC l = false
 | [], _, h, _ => by simp at h
 | [_], _, h, _ => by simp at h
 | a :: b :: r, 0, _, h => by
  simp only [List.getElem_cons_succ, List.getElem_cons_zero] at h;unfold IC;rw [h];rfl
 | a :: b :: r, j + 1, hj, h => by
  unfold IC;rw [PG (l := b :: r) (j := j) (by simp at hj ⊢; omega) (by simpa using h)]
  simp
set_option maxHeartbeats 1600000 in
theorem Kz (l : List By) (hs : ∀ s ∈ l, s.length ≤ 140737488355328) (hl : l.length ≤ 140737488355328) : AC prog 224 [Bn l] [] (.bo (BS l)) [] := by
 refine Ai [159] [] func224 ?_;unfold BS;by_cases h64 : l.length ≤ 64
 rotate_left
 ·rw [decide_eq_false h64]
  refine run ?_;exact Ab
 rw [decide_eq_true h64];refine run ?_;refine Bp (fun m e S => S = [] ∧ e 0 = Bn l ∧ e 8 = Bn l ∧ e 9 = .it .i64 (l.length : Int) ∧ ∃ k : Nat, e 10 = .it .i64 (k : Int) ∧ k ≤ l.length ∧ (∀ j (h : j < l.length), j < k → Ax l[j] = true) ∧
  (∀ j (h : j + 1 < l.length), j + 1 < k → (Op.bytesLess l[j + 1] l[j] || l[j + 1] == l[j]) = false) ∧ m = l.length - k) l.length ⟨rfl, Ad, Ad, Ad, 0, Ad, by omega, fun j _ h => absurd h (Nat.not_lt_zero _), fun j _ h => absurd h (Nat.not_lt_zero _), rfl⟩ ?_
 rintro m e S ⟨rfl, s0, s8, s9, k, s10, hk, hid, hasc, rfl⟩
 by_cases hlt : k < l.length
 rotate_left
 ·obtain rfl : k = l.length := by omega
  have h1 : l.all Ax = true := List.all_eq_true.2 fun x hx => by
   obtain ⟨j, hj, rfl⟩ := List.getElem_of_mem hx;exact hid j hj hj
  rw [h1, PF fun j h => hasc j h h]
  refine Aa (A4 s0 s8 s9 s10) ?_;exact Ab
 have hg : l[k]? = some l[k] := List.getElem?_eq_getElem hlt
 have hsk := hs l[k] (List.getElem_mem hlt);refine Aa (A5 s0 s8 s9 s10 hg) ?_;refine cp (Jl l[k] hsk) ?_;cases hb : Ax l[k] with
 | false =>
  have : l.all Ax = false := List.all_eq_false.2 ⟨l[k], List.getElem_mem hlt, by simp [hb]⟩
  rw [this];refine Aa (A4 s0 s8 s9 s10) ?_;exact Ab
 | true =>
  have hid' : ∀ j (h : j < l.length), j < k + 1 → Ax l[j] = true := fun j h hj => by
   by_cases e : j = k
   ·subst e; exact hb
   ·exact hid j h (by omega)
  cases k with
  | zero =>
   refine Aa (A5 s0 s8 s9 s10 hg) ?_;exact AG (l.length - 1) (by omega) ⟨rfl, Ad, Ad, Ad, 1, Ad, by omega, hid', fun j _ h => by omega, rfl⟩
  | succ k =>
   have hg' : l[k]? = some l[k] := List.getElem?_eq_getElem (by omega)
   have hc : ((k + 1 : Nat) : Int) - 1 = (k : Int) := by omega
   have hpos : (0 : Int) < ((k + 1 : Nat) : Int) := by omega
   cases hcmp : (Op.bytesLess l[k + 1] l[k] || l[k + 1] == l[k]) with
   | true =>
    rw [PG (j := k) hlt hcmp, Bool.and_false];refine Aa (A8 s0 s8 s9 s10 hg hg' hc hcmp) ?_;exact Ab
   | false =>
    refine Aa (A8 s0 s8 s9 s10 hg hg' hc hcmp) ?_;exact AG (l.length - (k + 1 + 1)) (by omega) ⟨rfl, Ad, Ad, Ad, k + 1 + 1, Ad, by omega, hid', fun j h hj => by
     by_cases e : j = k
     ·subst e; exact hcmp
     ·exact hasc j h (by omega), rfl⟩
end Pe
end
section
namespace Pe
open Tryz
open Go Go.RowKit Co Sg Ac
variable [Tab]
set_option maxRecDepth 100000
set_option maxHeartbeats 4000000
abbrev Gk (b : Box) : AV := .agg [.st b.nonce, .st b.data, .st b.tag]
abbrev Bb (w : Wrap) : AV := .agg [.it .i64 w.to, .it .i64 w.eph, .st w.box.nonce, .st w.box.data, .st w.box.tag]
abbrev wraps (m : Mode) (l : List Wrap) : AV := .sl m (l.map Bb)
abbrev G9 (a : Ac.Act) : List AV := [.st a.author, .it .i64 a.seq, .st a.prev, .it .i64 a.kind, .it .i64 a.time, .st a.object, .st a.target, .it .i64 a.scope, .st a.group, Bn a.to, .st a.text, .st a.body.nonce, .st a.body.data, .st a.body.tag, .it .i64 a.epoch, .sl .ro (a.wraps.map Bb), .it .i64 a.n, .it .i64 a.m, .it .i64 a.sig.e, .it .i64 a.sig.s]
abbrev Bl (a : Ac.Act) : AV := .agg [.st a.author, .it .i64 a.seq, .st a.prev, .it .i64 a.kind, .it .i64 a.time, .st a.object, .st a.target, .it .i64 a.scope, .st a.group, Bn a.to, .st a.text, .st a.body.nonce, .st a.body.data, .st a.body.tag, .it .i64 a.epoch, .sl .ro (a.wraps.map Bb), .it .i64 a.n, .it .i64 a.m, .it .i64 a.sig.e, .it .i64 a.sig.s]
structure Sz (a : Ac.Act) : Prop where
 author : a.author.length ≤ 140737488355328
 target : a.target.length ≤ 140737488355328
 group : a.group.length ≤ 140737488355328
 text : a.text.length ≤ 140737488355328
 tos : ∀ s ∈ a.to, s.length ≤ 140737488355328
 to : a.to.length ≤ 140737488355328
 wraps : a.wraps.length ≤ 140737488355328
theorem EO (s : By) : (s == []) = decide (s = []) := by rw [Bool.eq_iff_iff]; simp
theorem PY (n : Int) : (n == 0) = decide (n = 0) := rfl
theorem Il {α : Type} (l : List α) [DecidableEq α] : ((l.length : Int) == 0) = decide (l = []) := by
 cases l with
 | nil => rfl
 | cons a l =>
  rw [show ((((a :: l).length : Nat) : Int) == 0) = false from Ea (by simp only [List.length_cons]; omega)]
  simp
theorem B5 (s : By) : Bd s = ((s.length : Int) == 32) := by
 unfold Bd;rw [Bool.eq_iff_iff];simp only [decide_eq_true_eq, beq_iff_eq];omega
theorem GE (s : By) : Cx s = decide ((s.length : Int) ≤ 500) := by
 unfold Cx;rw [Bool.eq_iff_iff];simp only [decide_eq_true_eq];omega
theorem Pz (b : Box) : decide (b = Cu) = ((b.nonce == []) && ((b.data == []) && (b.tag == []))) := by
 obtain ⟨x, y, z⟩ := b;rw [Bool.eq_iff_iff];simp [Cu]
theorem EZ (n lo hi : Int) : AC prog 161 [.it .i64 n, .it .i64 lo, .it .i64 hi] [] (.bo (wi n lo hi)) [] := by
 refine Ai [] [] func161 ?_;unfold wi;by_cases h : lo ≤ n
 ·rw [decide_eq_true h]
  refine run ?_;exact Ab
 ·rw [decide_eq_false h]
  refine run ?_;exact Ab
theorem TC (s : By) : AC prog 213 [.st s] [] (.bo (Bd s)) [] := by
 refine Ai [] [] func213 ?_;rw [B5];refine run ?_;exact Ab
theorem MB (s : By) : AC prog 219 [.st s] [] (.bo (Cx s)) [] := by
 refine Ai [] [] func219 ?_;rw [GE];refine run ?_;exact Ab
theorem MC (n : Int) : AC prog 265 [.it .i64 n] [] (.bo (pub n)) [] := by
 refine Ai [161] [] func265 ?_;refine run ?_;refine cp (EZ n 1 2305843009213693950) ?_;refine run ?_;exact Ab
theorem TB (b : Box) : AC prog 264 [Gk b] [] (.bo (DJ b)) [] := by
 refine Ai [219] [] func264 ?_;unfold DJ;by_cases h1 : b.nonce.length = 32
 ·rw [decide_eq_true h1]
  by_cases h2 : b.tag.length = 16
  ·rw [decide_eq_true h2]
   refine run ?_;refine cp (MB b.data) ?_;refine run ?_;exact Ab
  ·rw [decide_eq_false h2]
   refine run ?_;exact Ab
 ·rw [decide_eq_false h1]
  refine run ?_;exact Ab
theorem P6 (a : Ac.Act) (hw : a.wraps.length ≤ 140737488355328) : AC prog 266 [Bl a] [] (.bo (En a)) [] := by
 refine Ai [265, 264] [] func266 ?_;unfold En;have hsz : AE 5 (a.wraps.map Bb) = true := BN 5 Bb (fun _ => rfl) _
 refine run ?_;refine Bp (fun m e S => e 1 = .ptr 0 0 ∧ e 6 = .sl .ro (a.wraps.map Bb) ∧ e 7 = .it .i64 (a.wraps.length : Int) ∧ ∃ (k : Nat) (T : Ae), e 8 = .it .i64 (k : Int) ∧ S = .cells (G9 a) :: T ∧ k ≤ a.wraps.length ∧ (∀ j (h : j < a.wraps.length), j < k → BH a.wraps[j] = true) ∧ m = a.wraps.length - k) a.wraps.length
  ⟨Ad, Ad, Ad, 0, [], Ad, rfl, by omega, fun j _ h => absurd h (Nat.not_lt_zero _), rfl⟩ ?_
 rintro m e S ⟨s1, s6, s7, k, T, s8, rfl, hk, hall, rfl⟩
 by_cases hlt : k < a.wraps.length
 rotate_left
 ·obtain rfl : k = a.wraps.length := by omega
  have h1 : a.wraps.all BH = true := List.all_eq_true.2 fun x hx => by
   obtain ⟨j, hj, rfl⟩ := List.getElem_of_mem hx;exact hall j hj hj
  have h2 : decide (a.wraps.length = a.to.length) = ((a.wraps.length : Int) == (a.to.length : Int)) := by
   rw [Bool.eq_iff_iff];simp only [decide_eq_true_eq, beq_iff_eq];omega
  rw [h1, h2];refine Aa (A4 s1 s6 s7 s8) ?_;exact Ab
 have hg : a.wraps[k]? = some a.wraps[k] := List.getElem?_eq_getElem hlt
 have hbad : BH a.wraps[k] = false → a.wraps.all BH = false := fun h => List.all_eq_false.2 ⟨_, List.getElem_mem hlt, by simp [h]⟩
 have hnext : BH a.wraps[k] = true → ∀ j (h : j < a.wraps.length), j < k + 1 → BH a.wraps[j] = true := fun hb j h hj => by
  by_cases e : j = k
  ·subst e; exact hb
  ·exact hall j h (by omega)
 generalize a.wraps[k] = x at *;have hT1 : ∀ y : SObj, (T ++ [y])[T.length]? = some y := fun y => by simp
 have hT2 : ∀ y z : SObj, (T ++ [y]).set T.length z = T ++ [z] := fun y z => by simp
 have hwx : BH x = (pub x.to && pub x.eph && DJ x.box) := rfl;rw [hwx] at hbad hnext;refine Aa (A8 s1 s6 s7 s8 hg hsz hT1 hT2) ?_;refine cp (MC x.to) ?_;cases h1 : pub x.to with
 | false =>
  rw [h1] at hbad;rw [hbad rfl];refine Aa (A6 s1 s6 s7 s8 hT1 hT2) ?_;exact Ab
 | true =>
  refine Aa (A6 s1 s6 s7 s8 hT1 hT2) ?_;refine cp (MC x.eph) ?_;cases h2 : pub x.eph with
  | false =>
   rw [h1, h2] at hbad;rw [hbad rfl];refine Aa (A6 s1 s6 s7 s8 hT1 hT2) ?_;exact Ab
  | true =>
   refine Aa (A6 s1 s6 s7 s8 hT1 hT2) ?_;refine cp (TB x.box) ?_;cases h3 : DJ x.box with
   | false =>
    rw [h1, h2, h3] at hbad;rw [hbad rfl];refine Aa (A6 s1 s6 s7 s8 hT1 hT2) ?_;exact Ab
   | true =>
    rw [h1, h2, h3] at hnext;refine Aa (A6 s1 s6 s7 s8 hT1 hT2) ?_;exact AG (a.wraps.length - (k + 1)) (by omega) ⟨Ad, Ad, Ad, k + 1, _, Ad, rfl, by omega, hnext rfl, rfl⟩
theorem Rb (sc : Int) (g : By) (hg : g.length ≤ 140737488355328) : AC prog 263 [.it .i64 sc, .st g] [] (.bo (E5 sc g)) [] := by
 refine Ai [221] [] func263 ?_;unfold E5;have hn := EO;by_cases h2 : sc = 2
 ·rw [if_pos h2]
  refine run ?_;refine cp (Mu g hg) ?_;refine run ?_;exact Ab
 rw [if_neg h2];by_cases h1 : sc = 1
 ·rw [if_pos (.inl h1)]
  refine Aa hn ?_;exact Ab
 by_cases h3 : sc = 3
 ·rw [if_pos (.inr h3)]
  refine Aa hn ?_;exact Ab
 ·rw [if_neg (by omega)]
  refine run ?_;exact Ab
theorem Wh (a : Ac.Act) (h : Sz a) : AC prog 216 [Bl a] [] (.bo (Ds a)) [] := by
 refine Ai [224, 219, 263, 161, 264] [] func216 ?_;unfold Ds;have hn := EO;have hz := PY;have hb := Pz a.body;have hl := Il a.to;refine run ?_;refine cp (Kz a.to h.tos h.to) ?_;cases h0 : BS a.to with
 | false =>
  refine run ?_;exact Ab
 | true =>
  by_cases hs : a.scope = 0
  ·rw [if_pos hs]
   by_cases h1 : a.group = []
   rotate_left
   ·rw [decide_eq_false h1]
    refine Aa (an hn h1) ?_;exact Ab
   by_cases h2 : a.epoch = 0
   rotate_left
   ·rw [decide_eq_true h1, decide_eq_false h2]
    refine Aa (an hn h1) ?_;exact Ab
   rw [decide_eq_true h1, decide_eq_true h2];refine Aa (an hn h1) ?_;refine cp (MB a.text) ?_;cases h3 : Cx a.text with
   | false =>
    refine run ?_;exact Ab
   | true =>
    rw [hb];refine run ?_;exact Ab
  ·rw [if_neg hs]
   by_cases h1 : a.to = [] ∨ a.scope = 3
   rotate_left
   ·have h2 : a.to ≠ [] := fun e => h1 (.inl e)
    have h3 : a.scope ≠ 3 := fun e => h1 (.inr e)
    have h4 : (0 : Int) < (a.to.length : Int) := by have := List.length_pos_iff.2 h2; omega
    rw [decide_eq_false h2, decide_eq_false h3];refine Aa h4 ?_;exact Ab
   have e1 : (decide (a.to = []) || decide (a.scope = 3)) = true := by simpa using h1
   rw [e1];have hgo : ∀ G : Prop, (a.to = [] → G) → (a.to ≠ [] → a.scope = 3 → G) → G := fun G g1 g2 => by
    by_cases e : a.to = []
    ·exact g1 e
    ·exact g2 e (h1.resolve_left e)
   refine hgo _ (fun e => ?_) (fun e e3 => ?_)
   focus
    have h4 : ¬ (0 : Int) < (a.to.length : Int) := by rw [e]; simp
    refine Aa h4 ?_
   rotate_left;focus
    have h4 : (0 : Int) < (a.to.length : Int) := by have := List.length_pos_iff.2 e; omega
    refine Aa (an h4 e3) ?_;rw [← e3]
   all_goals
    refine cp (Rb a.scope a.group h.group) ?_;cases h5 : E5 a.scope a.group with
    | false =>
     refine run ?_;exact Ab
    | true =>
     refine run ?_;refine cp (EZ a.epoch 0 1073741824) ?_;cases h6 : wi a.epoch 0 1073741824 with
     | false =>
      refine run ?_;exact Ab
     | true =>
      by_cases h7 : a.text = []
      rotate_left
      ·rw [decide_eq_false h7]
       refine Aa (an hn h7) ?_;exact Ab
      rw [decide_eq_true h7];refine Aa (an hn h7) ?_;refine cp (TB a.body) ?_;refine run ?_;exact Ab
theorem Kh (a : Ac.Act) : AC prog 215 [Bl a] [] (.bo (Bd a.object)) [] := by
 refine Ai [213] [] func215 ?_;refine run ?_;refine cp (TC a.object) ?_;refine run ?_;exact Ab
theorem LQ (a : Ac.Act) (h : Sz a) : AC prog 217 [Bl a] [] (.bo (Ax a.target)) [] := by
 refine Ai [159] [] func217 ?_;refine run ?_;refine cp (Jl a.target h.target) ?_;refine run ?_;exact Ab
theorem TF (a : Ac.Act) : AC prog 222 [Bl a] [] (.bo (home a)) [] := by
 refine Ai [265, 161] [] func222 ?_;unfold home;refine run ?_;refine cp (MC a.n) ?_;cases h1 : pub a.n with
 | false => refine run ?_; exact Ab
 | true =>
  refine run ?_;refine cp (EZ a.m 0 19) ?_;refine run ?_;exact Ab
theorem Zcz (a : Ac.Act) (h : Sz a) : AC prog 225 [Bl a] [] (.bo (grant a)) [] := by
 refine Ai [263, 161, 224, 266] [] func225 ?_;unfold grant;refine run ?_;refine cp (Rb a.scope a.group h.group) ?_;cases h1 : E5 a.scope a.group with
 | false => refine run ?_; exact Ab
 | true =>
  refine run ?_;refine cp (EZ a.epoch 0 1073741824) ?_;cases h2 : wi a.epoch 0 1073741824 with
  | false => refine run ?_; exact Ab
  | true =>
   refine run ?_;refine cp (Kz a.to h.tos h.to) ?_;cases h3 : BS a.to with
   | false => refine run ?_; exact Ab
   | true =>
    refine run ?_;refine cp (P6 a h.wraps) ?_;refine run ?_;exact Ab
theorem Zcm (a : Ac.Act) (h : Sz a) : AC prog 226 [Bl a] [] (.bo (label a)) [] := by
 refine Ai [221, 215, 217] [] func226 ?_;unfold label;have hn := EO;refine run ?_;refine cp (Mu a.text h.text) ?_;cases h1 : BY a.text with
 | false => refine run ?_; exact Ab
 | true =>
  refine run ?_;refine cp (Kh a) ?_;cases h2 : Bd a.object with
  | true =>
   by_cases h3 : a.target = []
   ·rw [decide_eq_true h3]
    refine Aa (an hn h3) ?_;exact Ab
   ·rw [decide_eq_false h3]
    refine Aa (an hn h3) ?_;refine cp (LQ a h) ?_;cases h4 : Ax a.target with
    | false => refine run ?_; exact Ab
    | true => refine Aa hn ?_; exact Ab
  | false =>
   refine run ?_;refine cp (LQ a h) ?_;cases h4 : Ax a.target with
   | false => refine run ?_; exact Ab
   | true => refine Aa hn ?_; exact Ab
theorem Zo (a : Ac.Act) (h : Sz a) : AC prog 227 [Bl a] [] (.bo (setup a)) [] := by
 refine Ai [224, 266, 161, 265] [] func227 ?_;unfold setup;by_cases h0 : 0 < a.to.length
 rotate_left
 ·rw [decide_eq_false h0]
  refine run ?_;exact Ab
 rw [decide_eq_true h0];refine run ?_;refine cp (Kz a.to h.tos h.to) ?_;cases h1 : BS a.to with
 | false => refine run ?_; exact Ab
 | true =>
  refine run ?_;refine cp (P6 a h.wraps) ?_;cases h2 : En a with
  | false => refine run ?_; exact Ab
  | true =>
   refine run ?_;refine cp (EZ a.n 1 a.to.length) ?_;cases h3 : wi a.n 1 a.to.length with
   | false => refine run ?_; exact Ab
   | true =>
    refine run ?_;refine cp (MC a.m) ?_;refine run ?_;exact Ab
theorem ZE (a : Ac.Act) (h : Sz a) : AC prog 214 [Bl a] [] (.bo (Bd a.object && Ds a)) [] := by
 refine Ai [215, 216] [] func214 ?_;refine run ?_;refine cp (Kh a) ?_;cases h1 : Bd a.object with
 | false => refine run ?_; exact Ab
 | true =>
  refine run ?_;refine cp (Wh a h) ?_;refine run ?_;exact Ab
theorem ZD (a : Ac.Act) : AC prog 218 [Bl a] [] (.bo (Bd a.object && Cx a.text)) [] := by
 refine Ai [215, 219] [] func218 ?_;refine run ?_;refine cp (Kh a) ?_;cases h1 : Bd a.object with
 | false => refine run ?_; exact Ab
 | true =>
  refine run ?_;refine cp (MB a.text) ?_;refine run ?_;exact Ab
theorem ZC (a : Ac.Act) (h : Sz a) : AC prog 220 [Bl a] [] (.bo (BY a.text && home a)) [] := by
 refine Ai [221, 222] [] func220 ?_;refine run ?_;refine cp (Mu a.text h.text) ?_;cases h1 : BY a.text with
 | false => refine run ?_; exact Ab
 | true =>
  refine run ?_;refine cp (TF a) ?_;refine run ?_;exact Ab
theorem ZB (a : Ac.Act) (h : Sz a) : AC prog 223 [Bl a] [] (.bo (BY a.group && BS a.to)) [] := by
 refine Ai [221, 224] [] func223 ?_;refine run ?_;refine cp (Mu a.group h.group) ?_;cases h1 : BY a.group with
 | false => refine run ?_; exact Ab
 | true =>
  refine run ?_;refine cp (Kz a.to h.tos h.to) ?_;refine run ?_;exact Ab
theorem ZA (a : Ac.Act) : AC prog 228 [Bl a] [] (.bo (Bd a.object && wi a.n 0 1)) [] := by
 refine Ai [215, 161] [] func228 ?_;refine run ?_;refine cp (Kh a) ?_;cases h1 : Bd a.object with
 | false => refine run ?_; exact Ab
 | true =>
  refine run ?_;refine cp (EZ a.n 0 1) ?_;refine run ?_;exact Ab
theorem Zz (a : Ac.Act) (h : Sz a) : AC prog 229 [Bl a] [] (.bo (Ax a.target && Cx a.text && wi a.n 0 1099511627776)) [] := by
 refine Ai [217, 219, 161] [] func229 ?_;refine run ?_;refine cp (LQ a h) ?_;cases h1 : Ax a.target with
 | false => refine run ?_; exact Ab
 | true =>
  refine run ?_;refine cp (MB a.text) ?_;cases h2 : Cx a.text with
  | false => refine run ?_; exact Ab
  | true =>
   refine run ?_;refine cp (EZ a.n 0 1099511627776) ?_;refine run ?_;exact Ab
theorem Zby (a : Ac.Act) : AC prog 160 [Bl a] [] (.bo (Cp a)) [] := by
 refine Ai [161, 213] [] func160 ?_;unfold Cp;have hn := EO;by_cases h0 : a.seq = 0
 ·rw [if_pos h0]
  by_cases h1 : a.kind = 0
  ·rw [decide_eq_true h1]
   refine Aa hn ?_;exact Ab
  ·rw [decide_eq_false h1]
   refine run ?_;exact Ab
 ·rw [if_neg h0]
  refine run ?_;refine cp (EZ a.seq 1 1073741824) ?_;cases h1 : wi a.seq 1 1073741824 with
  | false => refine run ?_; exact Ab
  | true =>
   by_cases h2 : a.kind = 0
   ·rw [decide_eq_false (p := a.kind ≠ 0) (by simpa using h2)]
    refine run ?_;exact Ab
   ·rw [decide_eq_true (p := a.kind ≠ 0) h2]
    refine run ?_;refine cp (TC a.prev) ?_;refine run ?_;exact Ab
theorem ZbS (f s : Int) (z : Bool) : AC prog 230 [.it .i64 f, .bo z, .ptr 0 0] [.cells [.it .i64 s]] (.tup []) [.cells [.it .i64 (Bo z f s)]] := by
 refine Ai [] [] func230 ?_;unfold Bo;cases z
 ·refine run ?_
  exact MO
 ·refine run ?_
  exact MO
theorem Fa (f s : Int) (z : Bool) (o : SObj) : AC prog 230 [.it .i64 f, .bo z, .ptr 1 0] [o, .cells [.it .i64 s]] (.tup []) [o, .cells [.it .i64 (Bo z f s)]] :=
 AC.at1 (T := [o, .cells [.it .i64 s]]) (ZbS f s z) 1 rfl rfl rfl rfl rfl
theorem Yo (a : Ac.Act) : AC prog 163 [Bl a] [] (.it .i64 (HV a)) [] := by
 refine Ai [] [] func163 ?_;unfold HV;have hn := EO;have hz := PY;have hb := Pz a.body;have hl := Il a.to;have hw := Il a.wraps;rw [hb];refine Aa hn ?_;refine Au (Fa 1 0 (decide (a.object = [])) _) ?_;generalize Bo (decide (a.object = [])) 1 0 = s at *;refine Aa hn ?_;refine Au (Fa 2 s (decide (a.target = [])) _) ?_;generalize Bo (decide (a.target = [])) 2 s = s at *;refine Aa hz ?_;refine Au (Fa 4 s (decide (a.scope = 0)) _) ?_;generalize Bo (decide (a.scope = 0)) 4 s = s at *;refine Aa hn ?_;refine Au (Fa 8 s (decide (a.group = [])) _) ?_;generalize Bo (decide (a.group = [])) 8 s = s at *;refine Aa hl ?_;refine Au (Fa 16 s (decide (a.to = [])) _) ?_;generalize Bo (decide (a.to = [])) 16 s = s at *;refine Aa hn ?_;refine Au (Fa 32 s (decide (a.text = [])) _) ?_;generalize Bo (decide (a.text = [])) 32 s = s at *;refine Aa hn ?_;refine Au (Fa 64 s (decide (a.body.nonce = []) && (decide (a.body.data = []) && decide (a.body.tag = []))) _) ?_;generalize Bo (decide (a.body.nonce = []) && (decide (a.body.data = []) && decide (a.body.tag = []))) 64 s = s at *;refine Aa hz ?_;refine Au (Fa 128 s (decide (a.epoch = 0)) _) ?_;generalize Bo (decide (a.epoch = 0)) 128 s = s at *;refine Aa hw ?_;refine Au (Fa 256 s (decide (a.wraps = [])) _) ?_;generalize Bo (decide (a.wraps = [])) 256 s = s at *;refine Aa hz ?_;refine Au (Fa 512 s (decide (a.n = 0)) _) ?_;generalize Bo (decide (a.n = 0)) 512 s = s at *;refine Aa hz ?_;refine Au (Fa 1024 s (decide (a.m = 0)) _) ?_;generalize Bo (decide (a.m = 0)) 1024 s = s at *;refine run ?_;exact Ab
def NW : Ru → FuncId
 | .begin => 220
 | .post => 216
 | .reply => 214
 | .about => 215
 | .tie => 217
 | .reason => 218
 | .circle => 223
 | .grant => 225
 | .label => 226
 | .move => 222
 | .setup => 227
 | .judge => 228
 | .list => 229
theorem ZH (a : Ac.Act) (h : Sz a) (r : Ru) : AC prog (NW r) [Bl a] [] (.bo (r.ok a)) [] := by
 cases r
 ·exact ZC a h
 ·exact Wh a h
 ·exact ZE a h
 ·exact Kh a
 ·exact LQ a h
 ·exact ZD a
 ·exact ZB a h
 ·exact Zcz a h
 ·exact Zcm a h
 ·exact TF a
 ·exact Zo a h
 ·exact ZA a
 ·exact Zz a h
def J1 (r : Ru) : AV := .agg [.it .i64 r.mask, .fn (.func (NW r)) [] []]
def J2 : List (AV × AV) := I6.map fun p => (.it .i64 p.1, J1 p.2)
theorem Tm (k : Int) : ∀ (l : List (Int × Ru)) (i : Nat), (l.lookup k = none ∧ C4 (.it .i64 k) (l.map fun p => (.it .i64 p.1, J1 p.2)) i = some none) ∨ (∃ r j, l.lookup k = some r ∧ C4 (.it .i64 k) (l.map fun p => (.it .i64 p.1, J1 p.2)) i = some (some (j, J1 r)))
 | [], i => .inl ⟨rfl, rfl⟩
 | (k', r) :: l, i => by
  have hk : FF (.it .i64 k) (.it .i64 k') = some (k == k') := rfl;rw [List.map_cons, List.lookup_cons];unfold C4;rw [hk];cases e : k == k' with
  | true => exact .inr ⟨r, i, rfl, rfl⟩
  | false => exact Tm k l (i + 1)
theorem ZI : (SObj.map J2).ok 0 = true := by decide +kernel
theorem Zy : AC prog 162 [] [] (.fm J2) [] := by
 refine Ai [] [] func162 ?_;refine run ?_;exact KG _ _ (Ay.freeze 0 0 4 (es := J2) (by rfl) (by rfl) ZI) [] (by rfl) (QN _) (by rfl) (by rfl) (by rfl)
theorem RI (a : Ac.Act) (h : Sz a) : AC prog 94 [Bl a] [] (.bo (right a)) [] := by
 refine Ai [162, 159, 160, 161, 163, 1000050] [] func94 ?_;unfold right;refine run ?_;refine cp (Jl a.author h.author) ?_;cases h1 : Ax a.author with
 | false => refine run ?_; exact Ab
 | true =>
  refine run ?_;refine cp (Zby a) ?_;cases h2 : Cp a with
  | false => refine run ?_; exact Ab
  | true =>
   refine run ?_;refine cp (EZ a.time 0 1099511627776) ?_;cases h3 : wi a.time 0 1099511627776 with
   | false => refine run ?_; exact Ab
   | true =>
    unfold AT;refine run ?_;refine cp (EZ a.sig.e 0 2305843009213693949) ?_;cases h4 : wi a.sig.e 0 2305843009213693949 with
    | false => refine run ?_; exact Ab
    | true =>
     refine run ?_;refine cp (EZ a.sig.s 0 2305843009213693949) ?_;cases h5 : wi a.sig.s 0 2305843009213693949 with
     | false => refine run ?_; exact Ab
     | true =>
      refine run ?_;refine cp Zy ?_;rcases Tm a.kind I6 0 with ⟨hr, hk⟩ | ⟨r, j, hr, hk⟩
      ·change C4 _ J2 0 = _ at hk
       change EK a.kind = _ at hr;rw [hr];refine Aa hk ?_;exact Ab
      ·change C4 _ J2 0 = _ at hk
       change EK a.kind = _ at hr;rw [hr];have hv : J1 r = .agg [.it .i64 r.mask, .fn (.func (NW r)) [] []] := rfl;rw [hv] at hk;refine Aa hk ?_;refine cp (Yo a) ?_;by_cases hu : Go.bits .andNot .i64 (HV a) r.mask = 0
       ·rw [decide_eq_true hu]
        have hrc := ZH a h r;refine Aa hu ?_;refine cp hrc ?_;refine run ?_;exact Ab
       ·have hb : (Go.bits .andNot .i64 (HV a) r.mask == 0) = false := by simpa using hu
        rw [decide_eq_false hu];refine Aa hb ?_;exact Ab
end Pe
namespace Pe
open Tryz
open Go Go.RowKit Co Sg Ac
set_option maxRecDepth 100000
set_option maxHeartbeats 4000000
theorem AC.empties [Tab] {P : Program} {f : FuncId} {m : Mode} {rest : List AV} {S S' : Ae} {v : AV} (h : ∀ (A : Option Addr) (c : Nat), AC P f (.ot (.slice A 0 c) :: rest) S v S') : AC P f (.sl m [] :: rest) S v S' := by
 refine ⟨(h none 0).can, fun w g cargs hw hargs => ?_⟩
 obtain ⟨h1, h2⟩ := hargs;have h0 : 0 < cargs.size := by rw [h1]; simp
 have hr := h2 0 _ cargs[0] rfl (Array.getElem?_eq_getElem h0)
 generalize hcv : cargs[0] = cv at hr;cases hr with
 | sl _ _ _ A c sz cu hc hcm hsz hA h1' hr' hm =>
  refine (h A c).run w g cargs hw ⟨by simpa using h1, fun j u v hu hv => ?_⟩
  cases j with
  | zero =>
   simp only [List.getElem?_cons_zero, Option.some.injEq] at hu
   subst hu;rw [Array.getElem?_eq_getElem h0, hcv] at hv
   cases hv
   exact .ot _ _ rfl
  | succ j => exact h2 (j + 1) u v (by simpa using hu) hv
theorem Uy (l r : List By) (hl : l.length ≤ 140737488355328) (hr : r.length ≤ 140737488355328) : AC prog 174 [.sl .ro (l.map AV.st), .sl .ro (r.map AV.st)] [] (.bo (decide (l = r))) [] := by
 refine Ai [] [] func174 ?_;by_cases hlen : l.length = r.length
 rotate_left
 ·rw [decide_eq_false (fun e => hlen (by rw [e]))]
  refine run ?_;exact Ab
 have hs1 : AE 1 (l.map AV.st) = true := BN 1 AV.st (fun _ => rfl) _
 have hs2 : AE 1 (r.map AV.st) = true := BN 1 AV.st (fun _ => rfl) _
 refine run ?_;refine Bp (fun m e S => S = [] ∧ e 0 = .sl .ro (l.map AV.st) ∧ e 1 = .sl .ro (r.map AV.st) ∧ e 12 = .it .i64 (l.length : Int) ∧ ∃ k : Nat, e 13 = .it .i64 (k : Int) ∧ k ≤ l.length ∧ l.take k = r.take k ∧ m = l.length - k) l.length ⟨rfl, Ad, Ad, Ad, 0, Ad, by omega, rfl, rfl⟩ ?_
 rintro m e S ⟨rfl, s0, s1, s12, k, s13, hk, htk, rfl⟩
 by_cases hlt : k < l.length
 rotate_left
 ·obtain rfl : k = l.length := by omega
  rw [List.take_length, List.take_of_length_le (by omega)] at htk
  rw [decide_eq_true htk];refine Aa (A4 s0 s1 s12 s13) ?_;exact Ab
 have g1 : l[k]? = some l[k] := List.getElem?_eq_getElem hlt
 have g2 : r[k]? = some (r[k]'(by omega)) := List.getElem?_eq_getElem (by omega)
 have hbad : l[k] ≠ r[k]'(by omega) → l ≠ r := fun h e => h (by subst e; rfl)
 have hgood : l[k] = r[k]'(by omega) → l.take (k + 1) = r.take (k + 1) := fun h => by
  rw [List.take_succ_eq_append_getElem hlt, List.take_succ_eq_append_getElem (by omega : k < r.length), htk, h]
 generalize l[k] = x at *;generalize r[k]'_ = y at *;by_cases hxy : x = y
 ·subst hxy
  have hg := hgood rfl;clear hgood hbad htk;refine Aa (A8 s0 s1 s12 s13 g1 g2 hs1 hs2) ?_;exact AG (l.length - (k + 1)) (by omega) ⟨rfl, Ad, Ad, Ad, k + 1, Ad, by omega, hg, rfl⟩
 ·rw [decide_eq_false (hbad hxy)]
  clear hgood hbad htk;have e1 : (x == y) = false := by simpa using hxy
  refine Aa (A9 s0 s1 s12 s13 g1 g2 hs1 hs2 e1) ?_;exact Ab
theorem ZdA (l r : List Wrap) (hl : l.length ≤ 140737488355328) (hr : r.length ≤ 140737488355328) : AC prog 175 [.sl .ro (l.map Bb), .sl .ro (r.map Bb)] [] (.bo (decide (l = r))) [] := by
 refine Ai [] [] func175 ?_;by_cases hlen : l.length = r.length
 rotate_left
 ·rw [decide_eq_false (fun e => hlen (by rw [e]))]
  refine run ?_;exact Ab
 have hs1 : AE 5 (l.map Bb) = true := BN 5 Bb (fun _ => rfl) _
 have hs2 : AE 5 (r.map Bb) = true := BN 5 Bb (fun _ => rfl) _
 refine run ?_;refine Bp (fun m e S => S = [] ∧ e 0 = .sl .ro (l.map Bb) ∧ e 1 = .sl .ro (r.map Bb) ∧ e 12 = .it .i64 (l.length : Int) ∧ ∃ k : Nat, e 13 = .it .i64 (k : Int) ∧ k ≤ l.length ∧ l.take k = r.take k ∧ m = l.length - k) l.length ⟨rfl, Ad, Ad, Ad, 0, Ad, by omega, rfl, rfl⟩ ?_
 rintro m e S ⟨rfl, s0, s1, s12, k, s13, hk, htk, rfl⟩
 by_cases hlt : k < l.length
 rotate_left
 ·obtain rfl : k = l.length := by omega
  rw [List.take_length, List.take_of_length_le (by omega)] at htk
  rw [decide_eq_true htk];refine Aa (A4 s0 s1 s12 s13) ?_;exact Ab
 have g1 : l[k]? = some l[k] := List.getElem?_eq_getElem hlt
 have g2 : r[k]? = some (r[k]'(by omega)) := List.getElem?_eq_getElem (by omega)
 have hbad : l[k] ≠ r[k]'(by omega) → l ≠ r := fun h e => h (by subst e; rfl)
 have hgood : l[k] = r[k]'(by omega) → l.take (k + 1) = r.take (k + 1) := fun h => by
  rw [List.take_succ_eq_append_getElem hlt, List.take_succ_eq_append_getElem (by omega : k < r.length), htk, h]
 generalize l[k] = x at *;generalize r[k]'_ = y at *;by_cases hxy : x = y
 ·subst hxy
  have hg := hgood rfl;clear hgood hbad htk;refine Aa (A8 s0 s1 s12 s13 g1 g2 hs1 hs2) ?_;exact AG (l.length - (k + 1)) (by omega) ⟨rfl, Ad, Ad, Ad, k + 1, Ad, by omega, hg, rfl⟩
 ·rw [decide_eq_false (hbad hxy)]
  clear hgood hbad htk;have e1 : ((x.to == y.to) && ((x.eph == y.eph) && (((x.box.nonce == y.box.nonce) && ((x.box.data == y.box.data) && (x.box.tag == y.box.tag)))))) = false := by
   obtain ⟨x1, x2, x3, x4, x5⟩ := x;obtain ⟨y1, y2, y3, y4, y5⟩ := y;rw [Bool.eq_false_iff];intro h;simp only [Bool.and_eq_true, beq_iff_eq] at h;obtain ⟨rfl, rfl, rfl, rfl, rfl⟩ := h;exact hxy rfl
  refine Aa (A9 s0 s1 s12 s13 g1 g2 hs1 hs2 e1) ?_;exact Ab
theorem Zu (a b : Ac.Act) (ha : a.to.length ≤ 140737488355328 ∧ a.wraps.length ≤ 140737488355328) (hb : b.to.length ≤ 140737488355328 ∧ b.wraps.length ≤ 140737488355328) : AC prog 111 [Bl a, Bl b] [] (.bo (decide (a = b))) [] := by
 refine Ai [174, 175] [] func111 ?_;obtain ⟨q, hq⟩ : ∃ q, decide (a = b) = q := ⟨_, rfl⟩
 rw [hq];obtain ⟨a_author, a_seq, a_prev, a_kind, a_time, a_object, a_target, a_scope, a_group, a_to, a_text, ⟨a_bn, a_bd, a_bt⟩, a_epoch, a_wraps, a_n, a_m, ⟨a_se, a_ss⟩⟩ := a;obtain ⟨b_author, b_seq, b_prev, b_kind, b_time, b_object, b_target, b_scope, b_group, b_to, b_text, ⟨b_bn, b_bd, b_bt⟩, b_epoch, b_wraps, b_n, b_m, ⟨b_se, b_ss⟩⟩ := b;by_cases h_author : a_author = b_author
 rotate_left
 ·obtain rfl : q = false := by rw [← hq]; exact decide_eq_false (fun e => h_author (by cases e; rfl))
  have e_author : (a_author == b_author) = false := by simpa using h_author
  refine Aa e_author ?_;exact Ab
 subst h_author;by_cases h_seq : a_seq = b_seq
 rotate_left
 ·obtain rfl : q = false := by rw [← hq]; exact decide_eq_false (fun e => h_seq (by cases e; rfl))
  refine run ?_;exact Ab
 subst h_seq;by_cases h_prev : a_prev = b_prev
 rotate_left
 ·obtain rfl : q = false := by rw [← hq]; exact decide_eq_false (fun e => h_prev (by cases e; rfl))
  have e_prev : (a_prev == b_prev) = false := by simpa using h_prev
  refine Aa e_prev ?_;exact Ab
 subst h_prev;by_cases h_kind : a_kind = b_kind
 rotate_left
 ·obtain rfl : q = false := by rw [← hq]; exact decide_eq_false (fun e => h_kind (by cases e; rfl))
  refine run ?_;exact Ab
 subst h_kind;by_cases h_time : a_time = b_time
 rotate_left
 ·obtain rfl : q = false := by rw [← hq]; exact decide_eq_false (fun e => h_time (by cases e; rfl))
  refine run ?_;exact Ab
 subst h_time;by_cases h_object : a_object = b_object
 rotate_left
 ·obtain rfl : q = false := by rw [← hq]; exact decide_eq_false (fun e => h_object (by cases e; rfl))
  have e_object : (a_object == b_object) = false := by simpa using h_object
  refine Aa e_object ?_;exact Ab
 subst h_object;by_cases h_target : a_target = b_target
 rotate_left
 ·obtain rfl : q = false := by rw [← hq]; exact decide_eq_false (fun e => h_target (by cases e; rfl))
  have e_target : (a_target == b_target) = false := by simpa using h_target
  refine Aa e_target ?_;exact Ab
 subst h_target;by_cases h_scope : a_scope = b_scope
 rotate_left
 ·obtain rfl : q = false := by rw [← hq]; exact decide_eq_false (fun e => h_scope (by cases e; rfl))
  refine run ?_;exact Ab
 subst h_scope;by_cases h_group : a_group = b_group
 rotate_left
 ·obtain rfl : q = false := by rw [← hq]; exact decide_eq_false (fun e => h_group (by cases e; rfl))
  have e_group : (a_group == b_group) = false := by simpa using h_group
  refine Aa e_group ?_;exact Ab
 subst h_group;refine run ?_;refine cp (Uy a_to b_to ha.1 hb.1) ?_;by_cases h_to : a_to = b_to
 rotate_left
 ·obtain rfl : q = false := by rw [← hq]; exact decide_eq_false (fun e => h_to (by cases e; rfl))
  rw [decide_eq_false h_to];refine run ?_;exact Ab
 subst h_to;rw [decide_eq_true (p := a_to = a_to) rfl];by_cases h_text : a_text = b_text
 rotate_left
 ·obtain rfl : q = false := by rw [← hq]; exact decide_eq_false (fun e => h_text (by cases e; rfl))
  have e_text : (a_text == b_text) = false := by simpa using h_text
  refine Aa e_text ?_;exact Ab
 subst h_text;by_cases h_bn : a_bn = b_bn
 rotate_left
 ·obtain rfl : q = false := by rw [← hq]; exact decide_eq_false (fun e => h_bn (by cases e; rfl))
  have e_bn : (a_bn == b_bn) = false := by simpa using h_bn
  refine Aa e_bn ?_;exact Ab
 subst h_bn;by_cases h_bd : a_bd = b_bd
 rotate_left
 ·obtain rfl : q = false := by rw [← hq]; exact decide_eq_false (fun e => h_bd (by cases e; rfl))
  have e_bd : (a_bd == b_bd) = false := by simpa using h_bd
  refine Aa e_bd ?_;exact Ab
 subst h_bd;by_cases h_bt : a_bt = b_bt
 rotate_left
 ·obtain rfl : q = false := by rw [← hq]; exact decide_eq_false (fun e => h_bt (by cases e; rfl))
  have e_bt : (a_bt == b_bt) = false := by simpa using h_bt
  refine Aa e_bt ?_;exact Ab
 subst h_bt;by_cases h_epoch : a_epoch = b_epoch
 rotate_left
 ·obtain rfl : q = false := by rw [← hq]; exact decide_eq_false (fun e => h_epoch (by cases e; rfl))
  refine run ?_;exact Ab
 subst h_epoch;refine run ?_;refine cp (ZdA a_wraps b_wraps ha.2 hb.2) ?_;by_cases h_wraps : a_wraps = b_wraps
 rotate_left
 ·obtain rfl : q = false := by rw [← hq]; exact decide_eq_false (fun e => h_wraps (by cases e; rfl))
  rw [decide_eq_false h_wraps];refine run ?_;exact Ab
 subst h_wraps;rw [decide_eq_true (p := a_wraps = a_wraps) rfl];by_cases h_n : a_n = b_n
 rotate_left
 ·obtain rfl : q = false := by rw [← hq]; exact decide_eq_false (fun e => h_n (by cases e; rfl))
  refine run ?_;exact Ab
 subst h_n;by_cases h_m : a_m = b_m
 rotate_left
 ·obtain rfl : q = false := by rw [← hq]; exact decide_eq_false (fun e => h_m (by cases e; rfl))
  refine run ?_;exact Ab
 subst h_m;by_cases h_se : a_se = b_se
 rotate_left
 ·obtain rfl : q = false := by rw [← hq]; exact decide_eq_false (fun e => h_se (by cases e; rfl))
  refine run ?_;exact Ab
 subst h_se;by_cases h_ss : a_ss = b_ss
 rotate_left
 ·obtain rfl : q = false := by rw [← hq]; exact decide_eq_false (fun e => h_ss (by cases e; rfl))
  refine run ?_;exact Ab
 subst h_ss;obtain rfl : q = true := by rw [← hq]; exact decide_eq_true rfl
 refine run ?_;exact Ab
theorem Pv (l : List By) (hl : l.length ≤ 1000000) : AC prog 74 [.sl .ro (l.map AV.st)] [] (.sl .ro (l.map AV.st)) [] := by
 cases l with
 | nil =>
  refine AC.empties fun A c => ?_
  refine Ai [] [] func74 ?_;cases A with
  | none =>
   refine run ?_;exact AH
  | some A =>
   refine run ?_;exact AH
 | cons x l =>
  have hs1 : AE 1 ((x :: l).map AV.st) = true := BN 1 AV.st (fun _ => rfl) _
  have hl' : l.length ≤ 1000000 := by simp only [List.length_cons] at hl; omega
  simp only [List.map_cons] at hs1 ⊢;refine Ai [] [] func74 ?_;refine Aa hs1 ?_;exact AH
theorem Vp (l : List Wrap) (hl : l.length ≤ 1000000) : AC prog 98 [.sl .ro (l.map Bb)] [] (.sl .ro (l.map Bb)) [] := by
 cases l with
 | nil =>
  refine AC.empties fun A c => ?_
  refine Ai [] [] func98 ?_;cases A with
  | none =>
   refine run ?_;exact AH
  | some A =>
   refine run ?_;exact AH
 | cons x l =>
  have hs1 : AE 5 ((x :: l).map Bb) = true := BN 5 Bb (fun _ => rfl) _
  have hl' : l.length ≤ 1000000 := by simp only [List.length_cons] at hl; omega
  simp only [List.map_cons] at hs1 ⊢;refine Ai [] [] func98 ?_;refine Aa hs1 ?_;exact AH
theorem VL (b : Box) (h : b.nonce.length ≤ 1000000 ∧ b.data.length ≤ 1000000 ∧ b.tag.length ≤ 1000000) : AC prog 256 [Gk b] [] (.st (D8 b)) [] := by
 refine Ai [33] [] func256 ?_;have l1 := AR h.1;have l2 := AR h.2.1;have l3 := AR h.2.2;unfold D8;refine run ?_;refine cp (CO b.nonce (by omega)) ?_
 refine run ?_;refine cp (CO b.data (by omega)) ?_
 refine run ?_;refine cp (CO b.tag (by omega)) ?_
 refine run ?_;exact Ab
theorem KS (b : Box) (h : b.nonce.length ≤ 1000000 ∧ b.data.length ≤ 1000000 ∧ b.tag.length ≤ 1000000) : (D8 b).length ≤ 3000027 := by
 have l1 := AR h.1;have l2 := AR h.2.1;have l3 := AR h.2.2;unfold D8;simp only [List.length_append];omega
theorem Lb {w : Wrap} (h : BH w = true) : (1 ≤ w.to ∧ w.to ≤ 2305843009213693950) ∧ (1 ≤ w.eph ∧ w.eph ≤ 2305843009213693950) ∧ w.box.nonce.length ≤ 1000000 ∧ w.box.data.length ≤ 1000000 ∧ w.box.tag.length ≤ 1000000 := by
 simp only [BH, pub, Bool.and_eq_true, AZ] at h;have := L7 h.2;omega
theorem X3 {w : Wrap} (h : BH w = true) : (Bz w).length ≤ 3000045 := by
 have h' := Lb h;have := KS w.box h'.2.2;have h1 := Ak w.to (by omega)
 have h2 := Ak w.eph (by omega)
 unfold Bz;simp only [List.length_append];omega
theorem P4 {l : List Wrap} (hw : ∀ w ∈ l, BH w = true) (hl : l.length ≤ 64) (k : Nat) : ((l.take k).map Bz).flatten.length ≤ 192002880 := by
 have hx : ∀ m : List Wrap, (∀ w ∈ m, BH w = true) → (m.map Bz).flatten.length ≤ m.length * 3000045 := fun m => by
  induction m with
  | nil => intro _; simp
  | cons w m ih =>
   intro h;have h1 := X3 (h w (by simp))
   have h2 := ih fun x hx => h x (by simp [hx])
   rw [List.map_cons, List.flatten_cons, List.length_append, List.length_cons, Nat.succ_mul];omega
 have h1 := hx (l.take k) fun w h => hw w (List.mem_of_mem_take h)
 have h2 : (l.take k).length * 3000045 ≤ 64 * 3000045 := Nat.mul_le_mul_right _ (by rw [List.length_take]; omega)
 omega
def Ib (a : Ac.Act) : By :=
 text Cl ++ text a.author ++ Ah a.seq ++ text a.prev ++ (Ah a.kind ++ Ah a.time ++ text a.object ++ text a.target) ++ (Ah a.scope ++ text a.group ++ list a.to ++ text a.text) ++ (D8 a.body ++ Ah a.epoch ++ num a.wraps.length)
theorem Zes (a : Ac.Act) : Fi a = Ib a ++ (a.wraps.map Bz).flatten ++ Ah a.n ++ Ah a.m := by
 unfold Fi Ib;simp only [List.append_assoc]
theorem Zem (a : Ac.Act) (h : Sz a) : AC prog 198 [Bl a] [] (.st (Bk a)) [] := by
 refine Ai [94, 33, 68, 255, 256] [] func198 ?_;unfold Bk;refine run ?_;refine cp (RI a h) ?_;cases hr : right a with
 | false => rw [if_neg (by simp)]; refine run ?_; exact Ab
 | true =>
  rw [if_pos rfl];have sm := Et hr;have q1 := AR (s := Cl) (by simp)
  have q2 := AR (s := a.author) (by have := sm.author; omega)
  have q3 := Ak a.seq (by have := sm.seq; omega)
  have q4 := AR (s := a.prev) (by have := sm.prev; omega)
  have q5 := Ak a.kind (by have := sm.kind; omega)
  have q6 := Ak a.time (by have := sm.time; omega)
  have q7 := AR (s := a.object) (by have := sm.object; omega)
  have q8 := AR (s := a.target) (by have := sm.target; omega)
  have q9 := Ak a.scope (by have := sm.scope; omega)
  have q10 := AR (s := a.group) (by have := sm.group; omega)
  have q11 := Oy (l := a.to) (by have := sm.to; omega) (fun x hx => by have := sm.to.2 x hx; omega)
  have q12 := AR (s := a.text) (by have := sm.text; omega)
  have q13 := KS a.body (by have := sm.body; omega)
  have q14 := Ak a.epoch (by have := sm.epoch; omega)
  have q15 := Ef (n := a.wraps.length) (by have := sm.wraps; omega)
  have q16 := Ak a.n (by have := sm.n; omega)
  have q17 := Ak a.m (by have := sm.m; omega)
  have k1 := CO Cl (by simp)
  have k2 := CO a.author (by have := sm.author; omega)
  have k3 := Cf a.seq (by have := sm.seq; omega) (by have := sm.seq; omega)
  have k4 := CO a.prev (by have := sm.prev; omega)
  have k5 := Cf a.kind (by have := sm.kind; omega) (by have := sm.kind; omega)
  have k6 := Cf a.time (by have := sm.time; omega) (by have := sm.time; omega)
  have k7 := CO a.object (by have := sm.object; omega)
  have k8 := CO a.target (by have := sm.target; omega)
  have k9 := Cf a.scope (by have := sm.scope; omega) (by have := sm.scope; omega)
  have k10 := CO a.group (by have := sm.group; omega)
  have k11 := Te a.to (by have := sm.to; omega) (fun x hx => by have := sm.to.2 x hx; omega)
  have k12 := CO a.text (by have := sm.text; omega)
  have k13 := VL a.body (by have := sm.body; omega)
  have k14 := Cf a.epoch (by have := sm.epoch; omega) (by have := sm.epoch; omega)
  have k15 := Cf (a.wraps.length : Int) (by have := sm.wraps; omega) (by omega)
  rw [E9] at k15;have k16 := Cf a.n (by have := sm.n; omega) (by have := sm.n; omega)
  have k17 := Cf a.m (by have := sm.m; omega) (by have := sm.m; omega)
  have hwr := sm.wraps;have hlp : (Ib a).length ≤ 2000000000000 := by
   unfold Ib;simp only [List.length_append];omega
  rw [Zes];have hsz : AE 5 (a.wraps.map Bb) = true := BN 5 Bb (fun _ => rfl) _
  clear hr sm h;refine run ?_;refine cp k1 ?_;refine run ?_;refine cp k2 ?_;refine run ?_;refine cp k3 ?_;refine run ?_;refine cp k4 ?_;refine run ?_;refine cp k5 ?_;refine run ?_;refine cp k6 ?_;refine run ?_;refine cp k7 ?_;refine run ?_;refine cp k8 ?_;refine run ?_;refine cp k9 ?_;refine run ?_;refine cp k10 ?_;refine run ?_;refine cp k11 ?_;refine run ?_;refine cp k12 ?_;refine run ?_;refine cp k13 ?_;refine run ?_;refine cp k14 ?_;refine run ?_;refine cp k15 ?_;clear k1 k2 k3 k4 k5 k6 k7 k8 k9 k10 k11 k12 k13 k14 k15;refine run ?_;refine Bp (fun m e S => e 1 = .ptr 0 0 ∧ e 71 = .sl .ro (a.wraps.map Bb) ∧ e 72 = .it .i64 (a.wraps.length : Int) ∧ ∃ (k : Nat) (T : Ae), e 73 = .it .i64 (k : Int) ∧ e 3 = .st (Ib a ++ ((a.wraps.take k).map Bz).flatten) ∧ S = .cells (G9 a) :: T ∧ k ≤ a.wraps.length ∧ m = a.wraps.length - k) a.wraps.length
   ⟨Ad, Ad, Ad, 0, [], Ad, by rw [List.take_zero, List.map_nil, List.flatten_nil, List.append_nil]; exact Ad, rfl, by omega, rfl⟩ ?_
  clear q1 q2 q3 q4 q5 q6 q7 q8 q9 q10 q11 q12 q13 q14 q15;rintro m e S ⟨s1, s71, s72, k, T, s73, s3, rfl, hk, rfl⟩
  have hlen := P4 hwr.2 hwr.1 k;by_cases hlt : k < a.wraps.length
  rotate_left
  ·obtain rfl : k = a.wraps.length := by omega
   rw [List.take_length] at s3 hlen;generalize (a.wraps.map Bz).flatten = z at *;generalize Ib a = p at *;refine Aa (A5 s1 s71 s72 s73 s3) ?_;refine cp k16 ?_;refine Aa (A5 s1 s71 s72 s73 s3) ?_;refine cp k17 ?_;refine Aa (A5 s1 s71 s72 s73 s3) ?_;exact Ab
  have hg : a.wraps[k]? = some a.wraps[k] := List.getElem?_eq_getElem hlt
  have hx := hwr.2 a.wraps[k] (List.getElem_mem hlt);have hstep : ((a.wraps.take (k + 1)).map Bz).flatten = ((a.wraps.take k).map Bz).flatten ++ Bz a.wraps[k] := by
   rw [List.take_succ_eq_append_getElem hlt, List.map_append, List.flatten_append];congr 1
   exact List.append_nil _
  have hT1 : ∀ y : SObj, (T ++ [y])[T.length]? = some y := fun y => by simp
  have hT2 : ∀ y z : SObj, (T ++ [y]).set T.length z = T ++ [z] := fun y z => by simp
  generalize a.wraps[k] = x at *;have hx' := Lb hx;have hbl := KS x.box hx'.2.2;have hn1 := Ak x.to (by omega)
  have hn2 := Ak x.eph (by omega)
  generalize ((a.wraps.take k).map Bz).flatten = z at *;generalize Ib a = p at *;have hwl := hwr.1;clear k16 k17 q16 q17 hwr;refine Aa (A9 s1 s71 s72 s73 s3 hg hsz hT1 hT2) ?_;refine cp (Cf x.to (by omega) (by omega)) ?_
  refine Aa (A7 s1 s71 s72 s73 s3 hT1 hT2) ?_;refine cp (Cf x.eph (by omega) (by omega)) ?_
  refine Aa (A7 s1 s71 s72 s73 s3 hT1 hT2) ?_;refine cp (VL x.box hx'.2.2) ?_;refine Aa (A7 s1 s71 s72 s73 s3 hT1 hT2) ?_;exact AG (a.wraps.length - (k + 1)) (by omega) ⟨Ad, Ad, Ad, k + 1, _, Ad, by rw [hstep]; unfold Bz; simp only [List.append_assoc]; exact Ad, rfl, by omega, rfl⟩
theorem Pt {a : Ac.Act} : (Bk a).length ≤ 100000 := by
 unfold Bk;split
 ·rename_i hr
  have sm := Et hr;have q1 : (text Cl).length = 4 := by rfl
  have tl : ∀ (s : By) (n : Nat), s.length ≤ n → n ≤ 1000 → (text s).length ≤ n + 9 := fun s n h h' => by
   have := Ef (n := s.length) (by omega)
   unfold text;rw [List.length_append];omega
  have q2 := tl a.author 16 (by have := sm.author; omega) (by omega)
  have q3 := Ak a.seq (by have := sm.seq; omega)
  have q4 := tl a.prev 32 (by have := sm.prev; omega) (by omega)
  have q5 := Ak a.kind (by have := sm.kind; omega)
  have q6 := Ak a.time (by have := sm.time; omega)
  have q7 := tl a.object 32 (by have := sm.object; omega) (by omega)
  have q8 := tl a.target 16 (by have := sm.target; omega) (by omega)
  have q9 := Ak a.scope (by have := sm.scope; omega)
  have q10 := tl a.group 24 (by have := sm.group; omega) (by omega)
  have q12 := tl a.text 500 (by have := sm.text; omega) (by omega)
  have bl : ∀ b : Box, b.nonce.length ≤ 32 ∧ b.data.length ≤ 500 ∧ b.tag.length ≤ 16 → (D8 b).length ≤ 575 := fun b h => by
   have l1 := tl b.nonce 32 h.1 (by omega)
   have l2 := tl b.data 500 h.2.1 (by omega)
   have l3 := tl b.tag 16 h.2.2 (by omega)
   unfold D8;simp only [List.length_append];omega
  have q13 := bl a.body sm.body;have q14 := Ak a.epoch (by have := sm.epoch; omega)
  have q15 := Ef (n := a.wraps.length) (by have := sm.wraps; omega)
  have q16 := Ak a.n (by have := sm.n; omega)
  have q17 := Ak a.m (by have := sm.m; omega)
  have q11 : (list a.to).length ≤ 2000 := by
   have h1 := Ef (n := a.to.length) (by have := sm.to; omega)
   have h2 : ∀ l : List By, (∀ s ∈ l, s.length = 16) → (l.map text).flatten.length ≤ l.length * 25 := fun l => by
    induction l with
    | nil => intro _; simp
    | cons s l ih =>
     intro h;have e1 := tl s 16 (by have := h s (by simp); omega) (by omega)
     have e2 := ih fun x hx => h x (by simp [hx])
     rw [List.map_cons, List.flatten_cons, List.length_append, List.length_cons, Nat.succ_mul];omega
   have h3 := h2 a.to sm.to.2;have h4 : a.to.length * 25 ≤ 64 * 25 := Nat.mul_le_mul_right _ sm.to.1;unfold list;rw [List.length_append];omega
  have q18 : (a.wraps.map Bz).flatten.length ≤ 40000 := by
   have h2 : ∀ l : List Wrap, (∀ w ∈ l, BH w = true) → (l.map Bz).flatten.length ≤ l.length * 593 := fun l => by
    induction l with
    | nil => intro _; simp
    | cons w l ih =>
     intro h;have hw := h w (by simp)
     have hw2 := Lb hw;simp only [BH, Bool.and_eq_true] at hw;have hb := L7 hw.2;have e0 := bl w.box (by omega)
     have e1 := Ak w.to (by omega)
     have e2 := Ak w.eph (by omega)
     have e3 := ih fun x hx => h x (by simp [hx])
     have e4 : (Bz w).length ≤ 593 := by
      unfold Bz;simp only [List.length_append];omega
     rw [List.map_cons, List.flatten_cons, List.length_append, List.length_cons, Nat.succ_mul];omega
   have h3 := h2 a.wraps sm.wraps.2;have h4 : a.wraps.length * 593 ≤ 64 * 593 := Nat.mul_le_mul_right _ sm.wraps.1;omega
  unfold Fi;simp only [List.length_append];omega
 ·simp
theorem Zel {a : Ac.Act} : (Bk a).length ≤ 100000000 := Nat.le_trans Pt (by omega)
theorem M1 {a : Ac.Act} : (Ac.bytes a).length ≤ 100018 := by
 unfold Ac.bytes;split
 ·rename_i hr
  have sm := (Et hr).sig;simp only [AT, Bool.and_eq_true, AZ] at sm;have h := Pt (a := a);unfold Bk at h;rw [if_pos hr] at h;have n1 := Ak a.sig.e (by omega)
  have n2 := Ak a.sig.s (by omega)
  simp only [List.length_append];omega
 ·simp
theorem VG (a : Ac.Act) (h : Sz a) : AC prog 142 [Bl a] [] (.st (Ac.bytes a)) [] := by
 refine Ai [198, 68] [] func142 ?_;have hl := Zel (a := a);rw [ZeO];refine run ?_;refine cp (Zem a h) ?_;by_cases hc : Bk a = []
 ·rw [if_pos hc]
  rw [hc];refine run ?_;exact Ab
 ·rw [if_neg hc]
  have hb : (Bk a == []) = false := by simpa using hc
  have hr : right a = true := by
   cases hr : right a with
   | true => rfl
   | false => exact absurd (bytes_wrong hr).2 hc
  have hs := (Et hr).sig;simp only [AT, Bool.and_eq_true, AZ] at hs;have n1 := Ak a.sig.e (by omega)
  have n2 := Ak a.sig.s (by omega)
  generalize Bk a = c at *;refine Aa hb ?_;refine cp (Cf a.sig.e (by omega) (by omega)) ?_
  refine Aa hb ?_;refine cp (Cf a.sig.s (by omega) (by omega)) ?_
  refine Aa hb ?_;exact Ab
theorem ZbM (x : R) : x.num.2.rest = [] ∨ x.num.2.rest.length < x.rest.length := by
 unfold R.num;split
 ·rename_i n r h
  exact .inr (Mh _ 0 0 _ _ (by omega) (by simp) h).2
 ·exact .inl rfl
theorem Ox (x : R) : x.list.2.rest.length ≤ x.rest.length ∧ (∀ s ∈ x.list.1, s.length ≤ x.rest.length) ∧ x.list.1.length ≤ x.rest.length := by
 have h1 := Cq x;unfold R.list;simp only
 have key : ∀ y : R, y.rest.length ≤ x.rest.length → (x.num.1 ≤ x.rest.length ∨ y.bad = true) → (if (y.texts x.num.1).2.bad = true then (([] : List By), (y.texts x.num.1).2) else y.texts x.num.1).2.rest.length ≤ x.rest.length ∧
   (∀ s ∈ (if (y.texts x.num.1).2.bad = true then (([] : List By), (y.texts x.num.1).2) else y.texts x.num.1).1, s.length ≤ x.rest.length) ∧ (if (y.texts x.num.1).2.bad = true then (([] : List By), (y.texts x.num.1).2) else y.texts x.num.1).1.length ≤ x.rest.length := fun y hy hb => by
  have h2 := QD x.num.1 y;have h3 := h2.2.2;have h4 := h2.1;have h5 := h2.2.1;clear h2;by_cases hnb : (y.texts x.num.1).2.bad = true
  ·simp only [if_pos hnb]
   exact ⟨by omega, by simp, by simp⟩
  ·simp only [if_neg hnb]
   refine ⟨by omega, fun s hs => by have := h5 s hs; omega, ?_⟩
   rcases hb with hb | hb
   ·omega
   ·obtain ⟨r, b⟩ := y
    simp only at hb
    subst hb;rw [QE] at hnb;simp at hnb
 split
 ·exact key fail (Nat.zero_le _) (.inr rfl)
 ·exact key x.num.2 h1 (.inl (by omega))
theorem Ob (x : R) : (Ce x).2.rest.length ≤ x.rest.length ∧ (Ce x).1.nonce.length ≤ x.rest.length ∧ (Ce x).1.data.length ≤ x.rest.length ∧ (Ce x).1.tag.length ≤ x.rest.length := by
 have h1 := Ep x;have h2 := Ep x.text.2;have h3 := Ep x.text.2.text.2;unfold Ce;simp only
 omega
theorem N9 (x : R) : (B8 x).2.rest = [] ∨ (B8 x).2.rest.length < x.rest.length := by
 have h1 := ZbM x;have h2 := Cq x.num.2;have h3 := Ob x.num.2.num.2;unfold B8 Ap;simp only
 rcases h1 with h1 | h1
 ·rw [h1] at h2
  left
  apply List.eq_nil_of_length_eq_zero
  simp only [List.length_nil] at h2;omega
 ·right; omega
theorem R2 : ∀ (n : Nat) (x : R), (CS n x).2.rest.length ≤ x.rest.length ∧ ∀ l, (CS n x).1 = some l → l.length ≤ x.rest.length
 | 0, x => ⟨Nat.le_refl _, fun l h => by cases h; simp⟩
 | n + 1, x => by
  have h1 := N9 x;have h2 := R2 n (B8 x).2;unfold CS;split
  ·rename_i he
   exact ⟨by show (B8 x).2.rest.length ≤ _; rw [he]; simp, fun l h => by cases h⟩
  ·rename_i he
   have h1 := h1.resolve_left he;refine ⟨by show (CS n (B8 x).2).2.rest.length ≤ _; omega, fun l h => ?_⟩
   obtain ⟨l', hl', rfl⟩ := Option.map_eq_some_iff.1 h;have := h2.2 l' hl';simp only [List.length_cons];omega
theorem Zbg (x : R) : (EL x).2.rest.length ≤ x.rest.length ∧ (EL x).1.length ≤ x.rest.length := by
 have h1 := Cq x;have h2 := R2 x.num.1 x.num.2;unfold EL;refine ⟨by show (CS x.num.1 x.num.2).2.rest.length ≤ _; omega, ?_⟩
 cases h : (CS x.num.1 x.num.2).1 with
 | none => simp
 | some l => have := h2.2 l h; simp only [Option.getD_some]; omega
theorem Du (x : R) (hx : x.rest.length ≤ 1000000) : ∃ s y, x.text = (s, y) ∧ y.rest.length ≤ 1000000 ∧ s.length ≤ 1000000 ∧ AC prog 193 [.ptr 0 0] [rd x] (.st s) [rd y] := by
 have := Ep x;exact ⟨x.text.1, x.text.2, rfl, by omega, by omega, Rm x (by omega)⟩
theorem BI (x : R) (hx : x.rest.length ≤ 1000000) : ∃ (n : Int) (y : R), Ap x = (n, y) ∧ y.rest.length ≤ 1000000 ∧ (0 ≤ n ∧ n < 9223372036854775808) ∧ AC prog 76 [.ptr 0 0] [rd x] (.it .i64 n) [rd y] := by
 have := Cq x;have := F8 x;exact ⟨x.num.1, x.num.2, rfl, by omega, by omega, J5 x (by omega)⟩
theorem RE (x : R) (hx : x.rest.length ≤ 1000000) : ∃ l y, x.list = (l, y) ∧ y.rest.length ≤ 1000000 ∧ (∀ s ∈ l, s.length ≤ 1000000) ∧ l.length ≤ 1000000 ∧ AC prog 194 [.ptr 0 0] [rd x] (Bn l) [rd y] := by
 have h := Ox x;exact ⟨x.list.1, x.list.2, rfl, by omega, fun s hs => by have := h.2.1 s hs; omega, by omega, Zaf x hx⟩
theorem Za1 (x : R) (hx : x.rest.length ≤ 1000000) : AC prog 195 [.ptr 0 0] [rd x] (Gk (Ce x).1) [rd (Ce x).2] := by
 refine Ai [] [] func195 ?_;obtain ⟨s1, x1, e1, b1, c1', k1⟩ := Du x hx;obtain ⟨s2, x2, e2, b2, c2', k2⟩ := Du x1 b1;obtain ⟨s3, x3, e3, b3, c3', k3⟩ := Du x2 b2;have hb : Ce x = (⟨s1, s2, s3⟩, x3) := by unfold Ce; simp only [e1, e2, e3]
 rw [hb];refine run ?_;refine c1 0 k1 ?_;refine run ?_;refine c1 0 k2 ?_;refine run ?_;refine c1 0 k3 ?_;refine run ?_;exact Bj
theorem R1 (x : R) (hx : x.rest.length ≤ 1000000) : ∃ (b : Box) (y : R), Ce x = (b, y) ∧ y.rest.length ≤ 1000000 ∧ AC prog 195 [.ptr 0 0] [rd x] (Gk b) [rd y] := by
 have h := Ob x;exact ⟨(Ce x).1, (Ce x).2, rfl, by omega, Za1 x hx⟩
theorem ZaV (x : R) (hx : x.rest.length ≤ 1000000) : AC prog 196 [.ptr 0 0] [rd x] (.sl .ro ((EL x).1.map Bb)) [rd (EL x).2] := by
 refine Ai [] [] func196 ?_;have h1 := F8 x;have h2 := Cq x;unfold EL;simp only
 refine run ?_;refine c1 0 (J5 x (by omega)) ?_
 generalize x.num = q at *;obtain ⟨n, y⟩ := q;simp only at h1 h2 ⊢
 refine run ?_;refine Eg (fun m e S => e 0 = .ptr 0 0 ∧ ∃ (c : Nat) (acc : List Wrap) (z : R) (T : Ae), e 4 = .it .i64 (c : Int) ∧ e 3 = .sl (.own 1) (acc.map Bb) ∧ S = rd z :: .buf acc.length 153 5 :: T ∧ c ≤ n ∧ acc.length + z.rest.length ≤ 1000000 ∧
  CS n y = ((CS c z).1.map (acc ++ ·), (CS c z).2) ∧ m = c) n _ _ (Ay.reserve 1 3 (es := []) (by rfl) 153 5)
  ⟨Ad, n, [], y, [], Ad, Ad, rfl, by omega, by simp; omega, by simp, rfl⟩ ?_
 rintro c e S ⟨s0, c, acc, z, T, s4, s3, rfl, hc, hz, hrw, rfl⟩
 cases c with
 | zero =>
  have hrw : CS n y = (some acc, z) := by rw [hrw]; simp [CS]
  rw [hrw];refine Aa (A3 s0 s4 s3) ?_;exact GZ
 | succ c =>
  have hT1 : ∀ o : SObj, (T ++ [o])[T.length]? = some o := fun o => by simp
  have hT2 : ∀ o o' : SObj, (T ++ [o]).set T.length o' = T ++ [o'] := fun o o' => by simp
  obtain ⟨n1, x1, e1, b1, c1', k1⟩ := BI z (by omega)
  obtain ⟨n2, x2, e2, b2, c2', k2⟩ := BI x1 b1;obtain ⟨bx, x3, e3, b3, k3⟩ := R1 x2 b2;have hw : B8 z = (⟨n1, n2, bx⟩, x3) := by unfold B8; simp only [e1, e2, e3]
  have hwr := N9 z;have hcI : ((c + 1 : Nat) : Int) - 1 = (c : Int) := by omega
  have hpos : (0 : Int) < ((c + 1 : Nat) : Int) := by omega
  have hst : CS (c + 1) z = if (B8 z).2.rest = [] then (none, (B8 z).2) else ((CS c (B8 z).2).1.map ((B8 z).1 :: ·), (CS c (B8 z).2).2) := rfl
  rw [hst] at hrw;rw [hw] at hrw hwr;simp only at hrw hwr
  have hsz : AE 5 (acc.map Bb) = true := BN 5 Bb (fun _ => rfl) _
  refine Aa (A6 s0 s4 s3 hpos hT1 hT2) ?_;refine c1 0 k1 ?_;refine Aa (A6 s0 s4 s3 hpos hT1 hT2) ?_;refine c1 0 k2 ?_;refine Aa (A6 s0 s4 s3 hpos hT1 hT2) ?_;refine c1 0 k3 ?_;refine Aa (A6 s0 s4 s3 hpos hT1 hT2) ?_;refine c1 0 (Ku x3) ?_;by_cases hem : x3.rest = []
  ·rw [if_pos hem] at hrw
   rw [hrw];have hl0 : x3.rest.length = 0 := by rw [hem]; rfl
   refine Aa (A6 s0 s4 s3 hl0 hT1 hT2) ?_;exact GZ
  ·rw [if_neg hem] at hrw
   have hlt := hwr.resolve_left hem;have hl0 : ((x3.rest.length : Int) == 0) = false := Ea (by have := List.length_pos_iff.2 hem; omega)
   refine Aa (A8 s0 s4 s3 hl0 hT1 hT2 hsz hcI) ?_;refine AG c (by omega) ⟨Ad, c, acc ++ [⟨n1, n2, bx⟩], x3, _, Ad, by rw [List.map_append]; exact Ad, by rw [List.length_append]; rfl, by omega, by rw [List.length_append, List.length_singleton]; omega, ?_, rfl⟩
   rw [hrw, Option.map_map];congr 2
   funext l
   simp
theorem Zw (x : R) (hx : x.rest.length ≤ 1000000) : ∃ (l : List Wrap) (y : R), EL x = (l, y) ∧ y.rest.length ≤ 1000000 ∧ l.length ≤ 1000000 ∧ AC prog 196 [.ptr 0 0] [rd x] (.sl .ro (l.map Bb)) [rd y] := by
 have h := Zbg x;exact ⟨(EL x).1, (EL x).2, rfl, by omega, by omega, ZaV x hx⟩
theorem Ms (s t : By) (h : s ≠ t) : (s == t) = false := by simpa using h
theorem ZaT (s : By) (hs : s.length ≤ 1000000) : AC prog 135 [.st s] [] (.tup [Bl (Ac.read s).1, .bo (Ac.read s).2]) [] := by
 refine Ai [142] [] func135 ?_;refine run ?_;refine Au (AC.newAt (Mm s) _) ?_;obtain ⟨nm, x0, e0, b0, d0, k0⟩ := Du ⟨s, false⟩ hs;refine run ?_;refine c1 1 k0 ?_;by_cases hn : nm = Cl
 rotate_left
 ·have hr : Ac.read s = (BU, false) := by
   unfold Ac.read;simp only [e0];exact if_neg (fun h => hn h.1)
  have hne := Ms nm Cl hn;rw [hr];refine Aa hne ?_;exact AH
 subst hn;obtain ⟨author, x1, e1, b1, d1, k1⟩ := Du x0 b0;obtain ⟨seq, x2, e2, b2, d2, k2⟩ := BI x1 b1;obtain ⟨prev, x3, e3, b3, d3, k3⟩ := Du x2 b2;obtain ⟨kind, x4, e4, b4, d4, k4⟩ := BI x3 b3;obtain ⟨time, x5, e5, b5, d5, k5⟩ := BI x4 b4;obtain ⟨object, x6, e6, b6, d6, k6⟩ := Du x5 b5;obtain ⟨target, x7, e7, b7, d7, k7⟩ := Du x6 b6;obtain ⟨scope, x8, e8, b8, d8, k8⟩ := BI x7 b7;obtain ⟨group, x9, e9, b9, d9, k9⟩ := Du x8 b8;obtain ⟨to, x10, e10, b10, d10, d10', k10⟩ := RE x9 b9;obtain ⟨text, x11, e11, b11, d11, k11⟩ := Du x10 b10;obtain ⟨body, x12, e12, b12, k12⟩ := R1 x11 b11;obtain ⟨epoch, x13, e13, b13, d13, k13⟩ := BI x12 b12;obtain ⟨wraps, x14, e14, b14, d14, k14⟩ := Zw x13 b13;obtain ⟨n, x15, e15, b15, d15, k15⟩ := BI x14 b14;obtain ⟨m, x16, e16, b16, d16, k16⟩ := BI x15 b15;obtain ⟨se, x17, e17, b17, d17, k17⟩ := BI x16 b16;obtain ⟨ss, x18, e18, b18, d18, k18⟩ := BI x17 b17;have hra : GM x0 = (⟨author, seq, prev, kind, time, object, target, scope, group, to, text, body, epoch, wraps, n, m, ⟨se, ss⟩⟩, x18) := by
  unfold GM;simp only [e1, e2, e3, e4, e5, e6, e7, e8, e9, e10, e11, e12, e13, e14, e15, e16, e17, e18]
 have hsz : Sz ⟨author, seq, prev, kind, time, object, target, scope, group, to, text, body, epoch, wraps, n, m, ⟨se, ss⟩⟩ :=
  ⟨by show author.length ≤ _; omega, by show target.length ≤ _; omega, by show group.length ≤ _; omega, by show text.length ≤ _; omega, fun s hs => by have := d10 s hs; omega, by show to.length ≤ _; omega, by show wraps.length ≤ _; omega⟩
 have hb := VG _ hsz;have hread : Ac.read s = if x18.done = true ∧ Ac.bytes ⟨author, seq, prev, kind, time, object, target, scope, group, to, text, body, epoch, wraps, n, m, ⟨se, ss⟩⟩ = s then (⟨author, seq, prev, kind, time, object, target, scope, group, to, text, body, epoch, wraps, n, m, ⟨se, ss⟩⟩, true) else (BU, false) := by
  unfold Ac.read;simp only [e0, hra];simp
 clear hra e0 e1 e2 e3 e4 e5 e6 e7 e8 e9 e10 e11 e12 e13 e14 e15 e16 e17 e18 b0 b1 b2 b3 b4 b5 b6 b7 b8 b9 b10 b11 b12 b13 b14 b15 b16 b17 b18 d0 d1 d2 d3 d4 d5 d6 d7 d8 d9 d10 d10' d11 d13 d14 d15 d16 d17 d18 hsz;refine run ?_;refine c1 1 k1 ?_;refine run ?_;refine c1 1 k2 ?_;refine run ?_;refine c1 1 k3 ?_;refine run ?_;refine c1 1 k4 ?_;refine run ?_;refine c1 1 k5 ?_;refine run ?_;refine c1 1 k6 ?_;refine run ?_;refine c1 1 k7 ?_;refine run ?_;refine c1 1 k8 ?_;refine run ?_;refine c1 1 k9 ?_;refine run ?_;refine c1 1 k10 ?_;refine run ?_;refine c1 1 k11 ?_;refine run ?_;refine c1 1 k12 ?_;refine run ?_;refine c1 1 k13 ?_;refine run ?_;refine c1 1 k14 ?_;refine run ?_;refine c1 1 k15 ?_;refine run ?_;refine c1 1 k16 ?_;refine run ?_;refine c1 1 k17 ?_;refine run ?_;refine c1 1 k18 ?_;clear k0 k1 k2 k3 k4 k5 k6 k7 k8 k9 k10 k11 k12 k13 k14 k15 k16 k17 k18;refine run ?_;refine c1 1 (Jv x18) ?_;have hdn : (!x18.bad && x18.rest == []) = x18.done := rfl;rw [hdn];by_cases hd : x18.done = true
 ·refine Aa hd ?_
  refine cp hb ?_;generalize Ac.bytes _ = bs at *;by_cases hbs : bs = s
  ·rw [if_pos ⟨hd, hbs⟩] at hread
   rw [hread];subst hbs;refine run ?_;exact AH
  ·rw [if_neg (fun h => hbs h.2)] at hread
   have hne := Ms bs s hbs;rw [hread];refine Aa hne ?_;exact AH
 ·rw [if_neg (fun h => hd h.1)] at hread
  have hd' : x18.done = false := by simpa using hd
  rw [hread];refine Aa hd' ?_;exact AH
end Pe
end
end Go.Proofs.YtldohjjoicmfpaaGreatDoor
