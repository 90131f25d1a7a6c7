/- A part. -/
import Derived.Test.YtldohjjoicmfpaaGreatDoorKr16
set_option linter.unusedSectionVars false
set_option linter.unusedVariables false
set_option linter.unusedSimpArgs false
namespace Go.Proofs.YtldohjjoicmfpaaGreatDoor
section
namespace Pe
open Tryz
open Go Go.RowKit Co Sg Ac
set_option maxRecDepth 100000
set_option maxHeartbeats 4000000
theorem TW (a : Ac.Act) (h : Sz a) : AC prog 103 [Bl a] [] (.bo (Ac.right a)) [] := by
 refine As [169, 170] [] func103 ?_;obtain ⟨q, hq⟩ : ∃ q, Ac.right a = q := ⟨_, rfl⟩
 rw [hq];rw [Zan] at hq;have hn := EO;refine run ?_;refine cp (BZ a.author h.author) ?_;cases c0 : Ax a.author with
 | false =>
  obtain rfl : q = false := by rw [← hq, c0]; rfl
  refine run ?_;exact Ab
 | true =>
 by_cases s0 : 0 ≤ a.seq
 rotate_left
 ·obtain rfl : q = false := by
   rw [← hq];have hp : Cp a = false := by unfold Cp; split <;> simp [wi, Bd] <;> omega
   rw [hp]; simp
  refine Aa hn ?_;exact Ab
 by_cases s1 : a.seq ≤ 1073741824
 rotate_left
 ·obtain rfl : q = false := by
   rw [← hq];have hp : Cp a = false := by unfold Cp; split <;> simp [wi, Bd] <;> omega
   rw [hp]; simp
  refine Aa hn ?_;exact Ab
 by_cases t0 : 0 ≤ a.time
 rotate_left
 ·obtain rfl : q = false := by
   rw [← hq];have hp : wi a.time 0 1099511627776 = false := by simp [wi]; omega
   rw [hp]; simp
  refine Aa hn ?_;exact Ab
 by_cases t1 : a.time ≤ 1099511627776
 rotate_left
 ·obtain rfl : q = false := by
   rw [← hq];have hp : wi a.time 0 1099511627776 = false := by simp [wi]; omega
   rw [hp]; simp
  refine Aa hn ?_;exact Ab
 by_cases e0 : 0 ≤ a.sig.e
 rotate_left
 ·obtain rfl : q = false := by
   rw [← hq];have hp : AT a.sig = false := by simp [AT, wi]; omega
   rw [hp]; simp
  refine Aa hn ?_;exact Ab
 by_cases e1 : a.sig.e < 2305843009213693950
 rotate_left
 ·obtain rfl : q = false := by
   rw [← hq];have hp : AT a.sig = false := by simp [AT, wi]; omega
   rw [hp]; simp
  refine Aa hn ?_;exact Ab
 by_cases f0 : 0 ≤ a.sig.s
 rotate_left
 ·obtain rfl : q = false := by
   rw [← hq];have hp : AT a.sig = false := by simp [AT, wi]; omega
   rw [hp]; simp
  refine Aa hn ?_;exact Ab
 by_cases f1 : a.sig.s < 2305843009213693950
 rotate_left
 ·obtain rfl : q = false := by
   rw [← hq];have hp : AT a.sig = false := by simp [AT, wi]; omega
   rw [hp]; simp
  refine Aa hn ?_;exact Ab
 have htm : wi a.time 0 1099511627776 = true := AZ.2 ⟨t0, t1⟩;have hsg : AT a.sig = true := by simp [AT, wi]; omega
 by_cases z : a.seq = 0
 ·cases cp0 : decide (a.prev = []) with
  | false =>
   obtain rfl : q = false := by
    have hp : Cp a = false := by unfold Cp; rw [if_pos z, cp0, Bool.and_false]
    rw [← hq, hp]; simp
   refine Aa (an hn cp0) ?_;exact Ab
  | true =>
  by_cases kz : a.kind = 0
  rotate_left
  ·obtain rfl : q = false := by
    have hp : Cp a = false := by unfold Cp; rw [if_pos z, decide_eq_false kz]; rfl
    rw [← hq, hp]; simp
   refine Aa (an hn cp0) ?_;exact Ab
  obtain rfl : q = AL a := by
   have hp : Cp a = true := by unfold Cp; rw [if_pos z, decide_eq_true kz, cp0]; rfl
   rw [← hq, hp, c0, htm, hsg]; rfl
  refine Aa (an hn cp0) ?_;refine cp (Uj a h) ?_;refine run ?_;exact Ab
 ·have z' : 1 ≤ a.seq := by omega
  have hw1 : wi a.seq 1 1073741824 = true := AZ.2 ⟨z', s1⟩;have hd := B5 a.prev;cases cd : ((a.prev.length : Int) == 32) with
  | false =>
   have cd' : ((a.prev.length : Int) != 32) = true := by simpa [bne] using cd
   obtain rfl : q = false := by
    have hp : Cp a = false := by unfold Cp; rw [if_neg z, hd, cd, Bool.and_false]
    rw [← hq, hp]; simp
   refine Aa cd' ?_;exact Ab
  | true =>
  have cd' : ((a.prev.length : Int) != 32) = false := by simpa [bne] using cd
  by_cases kz : a.kind = 0
  ·obtain rfl : q = false := by
    have hp : Cp a = false := by unfold Cp; rw [if_neg z, hw1, decide_eq_false (show ¬ a.kind ≠ 0 from fun h => h kz)]; rfl
    rw [← hq, hp]; simp
   refine Aa cd' ?_;exact Ab
  obtain rfl : q = AL a := by
   have hp : Cp a = true := by unfold Cp; rw [if_neg z, hw1, decide_eq_true (show a.kind ≠ 0 from kz), hd, cd]; rfl
   rw [← hq, hp, c0, htm, hsg]; rfl
  refine Aa cd' ?_;refine cp (Uj a h) ?_;refine run ?_;exact Ab
theorem Uo (b : Box) (h : b.nonce.length ≤ 1000000 ∧ b.data.length ≤ 1000000 ∧ b.tag.length ≤ 1000000) : AC prog 262 [Gk b] [] (.st (D8 b)) [] := by
 refine As [183] [] func262 ?_;have l1 := AR h.1;have l2 := AR h.2.1;have l3 := AR h.2.2;unfold D8;refine run ?_;refine cp (Cg b.nonce (by omega)) ?_
 refine run ?_;refine cp (Cg b.data (by omega)) ?_
 refine run ?_;refine cp (Cg b.tag (by omega)) ?_
 refine run ?_;exact Ab
def Ia (a : Ac.Act) : By :=
 text Cl ++ text a.author ++ Ah a.seq ++ text a.prev ++ Ah a.kind ++ Ah a.time ++ text a.object ++ text a.target ++ Ah a.scope ++ text a.group ++ list a.to ++ text a.text ++ D8 a.body ++ Ah a.epoch ++ num a.wraps.length
theorem Zer (a : Ac.Act) : Fi a = Ia a ++ (a.wraps.map Bz).flatten ++ Ah a.n ++ Ah a.m := by
 unfold Fi Ia;simp only [List.append_assoc]
theorem Zdi (a : Ac.Act) (h : Sz a) : AC prog 207 [Bl a] [] (.st (Bk a)) [] := by
 refine As [103, 183, 110, 208, 262] [] func207 ?_;unfold Bk;refine run ?_;refine cp (TW a h) ?_;cases hr : Ac.right a with
 | false => rw [if_neg (by simp)]; refine run ?_; exact Ab
 | true =>
  rw [if_pos rfl];have sm := Et hr;have hto : a.to.length ≤ 1000000 := by have := sm.to; omega
  have htx : ∀ x ∈ a.to, x.length ≤ 1000000 := fun x hx => by have := sm.to.2 x hx; omega
  have q1 := AR (s := Cl) (by simp)
  have k1 := Cg Cl (by simp)
  have q2 := AR (s := a.author) (by have := sm.author; omega)
  have k2 := Cg a.author (by have := sm.author; omega)
  have q3 := Ak a.seq (by have := sm.seq; omega)
  have k3 := Bi a.seq (by have := sm.seq; omega)
  have q4 := AR (s := a.prev) (by have := sm.prev; omega)
  have k4 := Cg a.prev (by have := sm.prev; omega)
  have q5 := Ak a.kind (by have := sm.kind; omega)
  have k5 := Bi a.kind (by have := sm.kind; omega)
  have q6 := Ak a.time (by have := sm.time; omega)
  have k6 := Bi a.time (by have := sm.time; omega)
  have q7 := AR (s := a.object) (by have := sm.object; omega)
  have k7 := Cg a.object (by have := sm.object; omega)
  have q8 := AR (s := a.target) (by have := sm.target; omega)
  have k8 := Cg a.target (by have := sm.target; omega)
  have q9 := Ak a.scope (by have := sm.scope; omega)
  have k9 := Bi a.scope (by have := sm.scope; omega)
  have q10 := AR (s := a.group) (by have := sm.group; omega)
  have k10 := Cg a.group (by have := sm.group; omega)
  have q11 := Oy (l := a.to) hto htx;have k11 := T4 a.to hto htx;have q12 := AR (s := a.text) (by have := sm.text; omega)
  have k12 := Cg a.text (by have := sm.text; omega)
  have q13 := KS a.body (by have := sm.body; omega)
  have k13 := Uo a.body (by have := sm.body; omega)
  have q14 := Ak a.epoch (by have := sm.epoch; omega)
  have k14 := Bi a.epoch (by have := sm.epoch; omega)
  have q15 := Ef (n := a.wraps.length) (by have := sm.wraps; omega)
  have k15 := Bi (a.wraps.length : Int) (by have := sm.wraps; omega)
  rw [E9] at k15;have q16 := Ak a.n (by have := sm.n; omega)
  have k16 := Bi a.n (by have := sm.n; omega)
  have q17 := Ak a.m (by have := sm.m; omega)
  have k17 := Bi a.m (by have := sm.m; omega)
  have hwr := sm.wraps;have hlp : (Ia a).length ≤ 2000000000000 := by
   unfold Ia;simp only [List.length_append];omega
  rw [Zer];have hsz : AE 5 (a.wraps.map Bb) = true := BN 5 Bb (fun _ => rfl) _
  clear hr sm h;refine run ?_;refine cp k1 ?_;refine run ?_;refine cp k2 ?_;refine run ?_;refine cp k3 ?_;refine run ?_;refine cp k4 ?_;refine run ?_;refine cp k5 ?_;refine run ?_;refine cp k6 ?_;refine run ?_;refine cp k7 ?_;refine run ?_;refine cp k8 ?_;refine run ?_;refine cp k9 ?_;refine run ?_;refine cp k10 ?_;refine run ?_;refine cp k11 ?_;refine run ?_;refine cp k12 ?_;refine run ?_;refine cp k13 ?_;refine run ?_;refine cp k14 ?_;refine run ?_;refine cp k15 ?_;refine run ?_;refine Bp (fun m e S => e 1 = .ptr 0 0 ∧ ∃ (k : Nat), e 5 = .it .i64 (k : Int) ∧ e 4 = .st (Ia a ++ ((a.wraps.take k).map Bz).flatten) ∧ S = [.cells (G9 a)] ∧ k ≤ a.wraps.length ∧ m = a.wraps.length - k) a.wraps.length
   ⟨Ad, 0, Ad, by rw [List.take_zero, List.map_nil, List.flatten_nil, List.append_nil]; exact Ad, rfl, by omega, rfl⟩ ?_
  clear k1 k2 k3 k4 k5 k6 k7 k8 k9 k10 k11 k12 k13 k14 k15;clear q1 q2 q3 q4 q5 q6 q7 q8 q9 q10 q11 q12 q13 q14 q15;rintro m e S ⟨s1, k, s5, s4, rfl, hk, rfl⟩
  have hlen := P4 hwr.2 hwr.1 k;by_cases hlt : k < a.wraps.length
  rotate_left
  ·obtain rfl : k = a.wraps.length := by omega
   rw [List.take_length] at s4 hlen;have hx : ¬ ((a.wraps.length : Nat) : Int) < (a.wraps.length : Int) := by omega
   generalize (a.wraps.map Bz).flatten = z at *;generalize Ia a = p at *;refine Aa (A4 s1 s5 s4 hx) ?_;refine cp k16 ?_;refine Aa (A3 s1 s5 s4) ?_;refine cp k17 ?_;refine Aa (A3 s1 s5 s4) ?_;exact Ab
  have hg : a.wraps[k]? = some a.wraps[k] := List.getElem?_eq_getElem hlt
  have hx := hwr.2 a.wraps[k] (List.getElem_mem hlt);have hstep : ((a.wraps.take (k + 1)).map Bz).flatten = ((a.wraps.take k).map Bz).flatten ++ Bz a.wraps[k] := by
   rw [List.take_succ_eq_append_getElem hlt, List.map_append, List.flatten_append];congr 1
   exact List.append_nil _
  generalize a.wraps[k] = x at *;have hx' := Lb hx;have hbl := KS x.box hx'.2.2;have hn1 := Ak x.to (by omega)
  have hn2 := Ak x.eph (by omega)
  generalize ((a.wraps.take k).map Bz).flatten = z at *;generalize Ia a = p at *;have hwl := hwr.1;clear k16 k17 q16 q17 hwr;refine Aa (A5 s1 s5 s4 hg hsz) ?_;refine cp (Bi x.to (by omega)) ?_
  refine Aa (A5 s1 s5 s4 hg hsz) ?_;refine cp (Bi x.eph (by omega)) ?_
  refine Aa (A5 s1 s5 s4 hg hsz) ?_;refine cp (Uo x.box hx'.2.2) ?_;refine Aa (A3 s1 s5 s4) ?_;exact AG (a.wraps.length - (k + 1)) (by omega) ⟨Ad, k + 1, Ad, by rw [hstep]; unfold Bz; simp only [List.append_assoc]; exact Ad, rfl, by omega, rfl⟩
theorem Ps (a : Ac.Act) (hr : Ac.right a = true) : Bk a ≠ [] := by
 unfold Bk Fi;rw [if_pos hr]
 have : (text Cl).length = 4 := rfl;intro e;have := congrArg List.length e;simp only [List.length_append, List.length_nil] at this;omega
theorem Ul (a : Ac.Act) (h : Sz a) : AC prog 152 [Bl a] [] (.st (Ac.bytes a)) [] := by
 refine As [207, 110] [] func152 ?_;refine run ?_;refine cp (Zdi a h) ?_;cases hr : Ac.right a with
 | false =>
  have h0 : Bk a = [] := by unfold Bk; rw [hr]; rfl
  have h1 : Ac.bytes a = [] := by unfold Ac.bytes; rw [hr]; rfl
  rw [h1, h0];refine run ?_;exact Ab
 | true =>
  have hne := Ps a hr;have hl := Pt (a := a);have h1 : Ac.bytes a = Bk a ++ Ah a.sig.e ++ Ah a.sig.s := by unfold Ac.bytes Bk; rw [if_pos hr, if_pos hr]
  have sm := (Et hr).sig;simp only [AT, Bool.and_eq_true, AZ] at sm;rw [h1];have hq : (Bk a == []) = false := by simpa using hne
  have n1 := Ak a.sig.e (by omega)
  have n2 := Ak a.sig.s (by omega)
  generalize Bk a = c at *;refine Aa hq ?_;refine cp (Bi a.sig.e (by omega)) ?_
  refine run ?_;refine cp (Bi a.sig.s (by omega)) ?_
  refine run ?_;exact Ab
end Pe
end
section
namespace Pe
open Tryz
open Go Go.RowKit Co Sg Ac It
set_option maxRecDepth 100000
set_option maxHeartbeats 4000000
theorem X0 (x y : Wrap) : ((x.to == y.to) && ((x.eph == y.eph) && ((x.box.nonce == y.box.nonce) && ((x.box.data == y.box.data) && (x.box.tag == y.box.tag))))) = decide (x = y) := by
 obtain ⟨x1, x2, ⟨x3, x4, x5⟩⟩ := x;obtain ⟨y1, y2, ⟨y3, y4, y5⟩⟩ := y;rw [Bool.eq_iff_iff];simp
theorem Zfm {a b : Ac.Act} (h : a.author = b.author ∧ a.seq = b.seq ∧ a.prev = b.prev ∧ a.kind = b.kind ∧ a.time = b.time ∧ a.object = b.object ∧ a.target = b.target ∧ a.scope = b.scope ∧ a.group = b.group ∧ a.to = b.to ∧ a.text = b.text ∧ a.body.nonce = b.body.nonce ∧ a.body.data = b.body.data ∧ a.body.tag = b.body.tag ∧ a.epoch = b.epoch ∧ a.wraps = b.wraps ∧ a.n = b.n ∧ a.m = b.m ∧ a.sig.e = b.sig.e ∧ a.sig.s = b.sig.s) : a = b := by
 obtain ⟨x1, x2, x3, x4, x5, x6, x7, x8, x9, x10, x11, ⟨x12, x13, x14⟩, x15, x16, x17, x18, ⟨x19, x20⟩⟩ := a;obtain ⟨y1, y2, y3, y4, y5, y6, y7, y8, y9, y10, y11, ⟨y12, y13, y14⟩, y15, y16, y17, y18, ⟨y19, y20⟩⟩ := b;simp only at h
 obtain ⟨rfl, rfl, rfl, rfl, rfl, rfl, rfl, rfl, rfl, rfl, rfl, rfl, rfl, rfl, rfl, rfl, rfl, rfl, rfl, rfl⟩ := h;rfl
theorem Oz {α : Type} {a b : List α} (hl : a.length = b.length) (h : ∀ j (h1 : j < a.length) (h2 : j < b.length), a[j] = b[j]) : a = b := List.ext_getElem hl h
theorem ZcM (a b : Ac.Act) (ha : a.to.length ≤ 140737488355328 ∧ a.wraps.length ≤ 140737488355328) (hb : b.to.length ≤ 140737488355328 ∧ b.wraps.length ≤ 140737488355328) : AC prog 101 [Bl a, Bl b] [] (.bo (decide (a = b))) [] := by
 refine As [] [] func101 ?_;obtain ⟨q, hq⟩ : ∃ q, decide (a = b) = q := ⟨_, rfl⟩
 rw [hq];have hsa : AE 5 (a.wraps.map Bb) = true := BN 5 Bb (fun _ => rfl) _
 have hsb : AE 5 (b.wraps.map Bb) = true := BN 5 Bb (fun _ => rfl) _
 by_cases l1 : a.to.length = b.to.length
 rotate_left
 ·obtain rfl : q = false := by rw [← hq]; exact decide_eq_false (fun e => l1 (by rw [e]))
  refine run ?_;exact Ab
 by_cases l2 : a.wraps.length = b.wraps.length
 rotate_left
 ·obtain rfl : q = false := by rw [← hq]; exact decide_eq_false (fun e => l2 (by rw [e]))
  refine run ?_;exact Ab
 refine run ?_;refine Bp (fun m e S => e 2 = .ptr 0 0 ∧ e 3 = .ptr 1 0 ∧ S = [.cells (G9 a), .cells (G9 b)] ∧ ∃ k : Nat, e 5 = .it .i64 (k : Int) ∧ k ≤ a.to.length ∧ (∀ j (h1 : j < a.to.length) (h2 : j < b.to.length), j < k → a.to[j] = b.to[j]) ∧ m = a.to.length - k) a.to.length
  ⟨Ad, Ad, rfl, 0, Ad, by omega, fun j _ _ h => absurd h (Nat.not_lt_zero _), rfl⟩ ?_
 rintro m e S ⟨s2, s3, rfl, k, s5, hk, hall, rfl⟩
 by_cases hlt : k < a.to.length
 focus
  have hga : a.to[k]? = some a.to[k] := List.getElem?_eq_getElem hlt
  have hgb : b.to[k]? = some (b.to[k]'(by omega)) := List.getElem?_eq_getElem (by omega)
  have hlb : k < b.to.length := by omega
  by_cases he : a.to[k] = b.to[k]
  ·have qe : (a.to[k] == b.to[k]) = true := by rw [he]; exact beq_self_eq_true _
   refine Aa (A6 s2 s3 s5 hga hgb qe) ?_;exact AG (a.to.length - (k + 1)) (by omega) ⟨Ad, Ad, rfl, k + 1, Ad, by omega, (fun j h1 h2 hj => by
    by_cases ej : j = k
    ·subst ej; exact he
    ·exact hall j h1 h2 (by omega)), rfl⟩
  ·have qe : (a.to[k] == b.to[k]) = false := by simpa using he
   obtain rfl : q = false := by rw [← hq]; exact decide_eq_false (fun e => he (by subst e; rfl))
   refine Aa (A6 s2 s3 s5 hga hgb qe) ?_;exact Ab
 have e_to : a.to = b.to := Oz l1 fun j h1 h2 => hall j h1 h2 (by omega)
 refine Aa (A3 s2 s3 s5) ?_;refine Bp (fun m e S => e 2 = .ptr 0 0 ∧ e 3 = .ptr 1 0 ∧ S = [.cells (G9 a), .cells (G9 b)] ∧ ∃ k : Nat, e 6 = .it .i64 (k : Int) ∧ k ≤ a.wraps.length ∧ (∀ j (h1 : j < a.wraps.length) (h2 : j < b.wraps.length), j < k → a.wraps[j] = b.wraps[j]) ∧ m = a.wraps.length - k) a.wraps.length
  ⟨Ad, Ad, rfl, 0, Ad, by omega, fun j _ _ h => absurd h (Nat.not_lt_zero _), rfl⟩ ?_
 clear s2 s3 s5 hall hlt;rintro m e S ⟨s2, s3, rfl, k, s6, hk, hall, rfl⟩
 by_cases hlt : k < a.wraps.length
 focus
  have hga : a.wraps[k]? = some a.wraps[k] := List.getElem?_eq_getElem hlt
  have hgb : b.wraps[k]? = some (b.wraps[k]'(by omega)) := List.getElem?_eq_getElem (by omega)
  have hlb : k < b.wraps.length := by omega
  have hw := X0 a.wraps[k] b.wraps[k];by_cases he : a.wraps[k] = b.wraps[k]
  ·rw [decide_eq_true he] at hw
   refine Aa (A8 s2 s3 s6 hga hgb hsa hsb hw) ?_;exact AG (a.wraps.length - (k + 1)) (by omega) ⟨Ad, Ad, rfl, k + 1, Ad, by omega, (fun j h1 h2 hj => by
    by_cases ej : j = k
    ·subst ej; exact he
    ·exact hall j h1 h2 (by omega)), rfl⟩
  ·rw [decide_eq_false he] at hw
   obtain rfl : q = false := by rw [← hq]; exact decide_eq_false (fun e => he (by subst e; rfl))
   refine Aa (A8 s2 s3 s6 hga hgb hsa hsb hw) ?_;exact Ab
 have e_wraps : a.wraps = b.wraps := Oz l2 fun j h1 h2 => hall j h1 h2 (by omega)
 by_cases h_author : a.author = b.author
 rotate_left
 ·have q_author : (a.author == b.author) = false := by simpa using h_author
  obtain rfl : q = false := by rw [← hq]; exact decide_eq_false (fun e => h_author (by rw [e]))
  refine Aa (A4 s2 s3 s6 q_author) ?_;exact Ab
 have q_author : (a.author == b.author) = true := by rw [h_author]; exact beq_self_eq_true _
 by_cases h_seq : a.seq = b.seq
 rotate_left
 ·have q_seq : (a.seq == b.seq) = false := by simpa using h_seq
  obtain rfl : q = false := by rw [← hq]; exact decide_eq_false (fun e => h_seq (by rw [e]))
  refine Aa (A5 s2 s3 s6 q_author q_seq) ?_;exact Ab
 have q_seq : (a.seq == b.seq) = true := by rw [h_seq]; exact beq_self_eq_true _
 by_cases h_prev : a.prev = b.prev
 rotate_left
 ·have q_prev : (a.prev == b.prev) = false := by simpa using h_prev
  obtain rfl : q = false := by rw [← hq]; exact decide_eq_false (fun e => h_prev (by rw [e]))
  refine Aa (A6 s2 s3 s6 q_author q_seq q_prev) ?_;exact Ab
 have q_prev : (a.prev == b.prev) = true := by rw [h_prev]; exact beq_self_eq_true _
 by_cases h_kind : a.kind = b.kind
 rotate_left
 ·have q_kind : (a.kind == b.kind) = false := by simpa using h_kind
  obtain rfl : q = false := by rw [← hq]; exact decide_eq_false (fun e => h_kind (by rw [e]))
  refine Aa (A7 s2 s3 s6 q_author q_seq q_prev q_kind) ?_;exact Ab
 have q_kind : (a.kind == b.kind) = true := by rw [h_kind]; exact beq_self_eq_true _
 by_cases h_time : a.time = b.time
 rotate_left
 ·have q_time : (a.time == b.time) = false := by simpa using h_time
  obtain rfl : q = false := by rw [← hq]; exact decide_eq_false (fun e => h_time (by rw [e]))
  refine Aa (A8 s2 s3 s6 q_author q_seq q_prev q_kind q_time) ?_;exact Ab
 have q_time : (a.time == b.time) = true := by rw [h_time]; exact beq_self_eq_true _
 by_cases h_object : a.object = b.object
 rotate_left
 ·have q_object : (a.object == b.object) = false := by simpa using h_object
  obtain rfl : q = false := by rw [← hq]; exact decide_eq_false (fun e => h_object (by rw [e]))
  refine Aa (A9 s2 s3 s6 q_author q_seq q_prev q_kind q_time q_object) ?_;exact Ab
 have q_object : (a.object == b.object) = true := by rw [h_object]; exact beq_self_eq_true _
 by_cases h_target : a.target = b.target
 rotate_left
 ·have q_target : (a.target == b.target) = false := by simpa using h_target
  obtain rfl : q = false := by rw [← hq]; exact decide_eq_false (fun e => h_target (by rw [e]))
  refine Aa (Gv s2 s3 s6 q_author q_seq q_prev q_kind q_time q_object q_target) ?_;exact Ab
 have q_target : (a.target == b.target) = true := by rw [h_target]; exact beq_self_eq_true _
 by_cases h_scope : a.scope = b.scope
 rotate_left
 ·have q_scope : (a.scope == b.scope) = false := by simpa using h_scope
  obtain rfl : q = false := by rw [← hq]; exact decide_eq_false (fun e => h_scope (by rw [e]))
  refine Aa (Bg s2 s3 s6 q_author q_seq q_prev q_kind q_time q_object q_target q_scope) ?_;exact Ab
 have q_scope : (a.scope == b.scope) = true := by rw [h_scope]; exact beq_self_eq_true _
 by_cases h_group : a.group = b.group
 rotate_left
 ·have q_group : (a.group == b.group) = false := by simpa using h_group
  obtain rfl : q = false := by rw [← hq]; exact decide_eq_false (fun e => h_group (by rw [e]))
  refine Aa (an s2 (Bg s3 s6 q_author q_seq q_prev q_kind q_time q_object q_target q_scope q_group)) ?_;exact Ab
 have q_group : (a.group == b.group) = true := by rw [h_group]; exact beq_self_eq_true _
 by_cases h_text : a.text = b.text
 rotate_left
 ·have q_text : (a.text == b.text) = false := by simpa using h_text
  obtain rfl : q = false := by rw [← hq]; exact decide_eq_false (fun e => h_text (by rw [e]))
  refine Aa (an s2 (an s3 (Bg s6 q_author q_seq q_prev q_kind q_time q_object q_target q_scope q_group q_text))) ?_;exact Ab
 have q_text : (a.text == b.text) = true := by rw [h_text]; exact beq_self_eq_true _
 by_cases h_body_nonce : a.body.nonce = b.body.nonce
 rotate_left
 ·have q_body_nonce : (a.body.nonce == b.body.nonce) = false := by simpa using h_body_nonce
  obtain rfl : q = false := by rw [← hq]; exact decide_eq_false (fun e => h_body_nonce (by rw [e]))
  refine Aa (an s2 (an s3 (an s6 (Bg q_author q_seq q_prev q_kind q_time q_object q_target q_scope q_group q_text q_body_nonce)))) ?_;exact Ab
 have q_body_nonce : (a.body.nonce == b.body.nonce) = true := by rw [h_body_nonce]; exact beq_self_eq_true _
 by_cases h_body_data : a.body.data = b.body.data
 rotate_left
 ·have q_body_data : (a.body.data == b.body.data) = false := by simpa using h_body_data
  obtain rfl : q = false := by rw [← hq]; exact decide_eq_false (fun e => h_body_data (by rw [e]))
  refine Aa (an s2 (an s3 (an s6 (an q_author (Bg q_seq q_prev q_kind q_time q_object q_target q_scope q_group q_text q_body_nonce q_body_data))))) ?_;exact Ab
 have q_body_data : (a.body.data == b.body.data) = true := by rw [h_body_data]; exact beq_self_eq_true _
 by_cases h_body_tag : a.body.tag = b.body.tag
 rotate_left
 ·have q_body_tag : (a.body.tag == b.body.tag) = false := by simpa using h_body_tag
  obtain rfl : q = false := by rw [← hq]; exact decide_eq_false (fun e => h_body_tag (by rw [e]))
  refine Aa (an s2 (an s3 (an s6 (an q_author (an q_seq (Bg q_prev q_kind q_time q_object q_target q_scope q_group q_text q_body_nonce q_body_data q_body_tag)))))) ?_;exact Ab
 have q_body_tag : (a.body.tag == b.body.tag) = true := by rw [h_body_tag]; exact beq_self_eq_true _
 by_cases h_epoch : a.epoch = b.epoch
 rotate_left
 ·have q_epoch : (a.epoch == b.epoch) = false := by simpa using h_epoch
  obtain rfl : q = false := by rw [← hq]; exact decide_eq_false (fun e => h_epoch (by rw [e]))
  refine Aa (an s2 (an s3 (an s6 (an q_author (an q_seq (an q_prev (Bg q_kind q_time q_object q_target q_scope q_group q_text q_body_nonce q_body_data q_body_tag q_epoch))))))) ?_;exact Ab
 have q_epoch : (a.epoch == b.epoch) = true := by rw [h_epoch]; exact beq_self_eq_true _
 by_cases h_n : a.n = b.n
 rotate_left
 ·have q_n : (a.n == b.n) = false := by simpa using h_n
  obtain rfl : q = false := by rw [← hq]; exact decide_eq_false (fun e => h_n (by rw [e]))
  refine Aa (an s2 (an s3 (an s6 (an q_author (an q_seq (an q_prev (an q_kind (Bg q_time q_object q_target q_scope q_group q_text q_body_nonce q_body_data q_body_tag q_epoch q_n)))))))) ?_;exact Ab
 have q_n : (a.n == b.n) = true := by rw [h_n]; exact beq_self_eq_true _
 by_cases h_m : a.m = b.m
 rotate_left
 ·have q_m : (a.m == b.m) = false := by simpa using h_m
  obtain rfl : q = false := by rw [← hq]; exact decide_eq_false (fun e => h_m (by rw [e]))
  refine Aa (an s2 (an s3 (an s6 (an q_author (an q_seq (an q_prev (an q_kind (an q_time (Bg q_object q_target q_scope q_group q_text q_body_nonce q_body_data q_body_tag q_epoch q_n q_m))))))))) ?_;exact Ab
 have q_m : (a.m == b.m) = true := by rw [h_m]; exact beq_self_eq_true _
 by_cases h_sig_e : a.sig.e = b.sig.e
 rotate_left
 ·have q_sig_e : (a.sig.e == b.sig.e) = false := by simpa using h_sig_e
  obtain rfl : q = false := by rw [← hq]; exact decide_eq_false (fun e => h_sig_e (by rw [e]))
  refine Aa (an s2 (an s3 (an s6 (an q_author (an q_seq (an q_prev (an q_kind (an q_time (an q_object (Bg q_target q_scope q_group q_text q_body_nonce q_body_data q_body_tag q_epoch q_n q_m q_sig_e)))))))))) ?_;exact Ab
 have q_sig_e : (a.sig.e == b.sig.e) = true := by rw [h_sig_e]; exact beq_self_eq_true _
 by_cases h_sig_s : a.sig.s = b.sig.s
 rotate_left
 ·have q_sig_s : (a.sig.s == b.sig.s) = false := by simpa using h_sig_s
  obtain rfl : q = false := by rw [← hq]; exact decide_eq_false (fun e => h_sig_s (by rw [e]))
  refine Aa (an s2 (an s3 (an s6 (an q_author (an q_seq (an q_prev (an q_kind (an q_time (an q_object (an q_target (Bg q_scope q_group q_text q_body_nonce q_body_data q_body_tag q_epoch q_n q_m q_sig_e q_sig_s))))))))))) ?_;exact Ab
 have q_sig_s : (a.sig.s == b.sig.s) = true := by rw [h_sig_s]; exact beq_self_eq_true _
 obtain rfl : q = true := by
  rw [← hq];exact decide_eq_true (Zfm ⟨h_author, h_seq, h_prev, h_kind, h_time, h_object, h_target, h_scope, h_group, e_to, h_text, h_body_nonce, h_body_data, h_body_tag, h_epoch, e_wraps, h_n, h_m, h_sig_e, h_sig_s⟩)
 refine Aa (an s2 (an s3 (an s6 (an q_author (an q_seq (an q_prev (an q_kind (an q_time (an q_object (an q_target (Bg q_scope q_group q_text q_body_nonce q_body_data q_body_tag q_epoch q_n q_m q_sig_e q_sig_s))))))))))) ?_;exact Ab
theorem ZcL (a b : It.Decision) (ha : a.to.length ≤ 140737488355328) (hb : b.to.length ≤ 140737488355328) : AC prog 102 [FP a, FP b] [] (.bo (decide (a = b))) [] := by
 refine As [] [] func102 ?_;obtain ⟨q, hq⟩ : ∃ q, decide (a = b) = q := ⟨_, rfl⟩
 rw [hq];by_cases l1 : a.to.length = b.to.length
 rotate_left
 ·obtain rfl : q = false := by rw [← hq]; exact decide_eq_false (fun e => l1 (by rw [e]))
  refine run ?_;exact Ab
 refine run ?_;refine Bp (fun m e S => e 2 = .ptr 0 0 ∧ e 3 = .ptr 1 0 ∧ S = [.cells (U3 a), .cells (U3 b)] ∧ ∃ k : Nat, e 5 = .it .i64 (k : Int) ∧ k ≤ a.to.length ∧ (∀ j (h1 : j < a.to.length) (h2 : j < b.to.length), j < k → a.to[j] = b.to[j]) ∧ m = a.to.length - k) a.to.length
  ⟨Ad, Ad, rfl, 0, Ad, by omega, fun j _ _ h => absurd h (Nat.not_lt_zero _), rfl⟩ ?_
 rintro m e S ⟨s2, s3, rfl, k, s5, hk, hall, rfl⟩
 by_cases hlt : k < a.to.length
 focus
  have hga : a.to[k]? = some a.to[k] := List.getElem?_eq_getElem hlt
  have hgb : b.to[k]? = some (b.to[k]'(by omega)) := List.getElem?_eq_getElem (by omega)
  have hlb : k < b.to.length := by omega
  by_cases he : a.to[k] = b.to[k]
  ·have qe : (a.to[k] == b.to[k]) = true := by rw [he]; exact beq_self_eq_true _
   refine Aa (A6 s2 s3 s5 hga hgb qe) ?_;exact AG (a.to.length - (k + 1)) (by omega) ⟨Ad, Ad, rfl, k + 1, Ad, by omega, (fun j h1 h2 hj => by
    by_cases ej : j = k
    ·subst ej; exact he
    ·exact hall j h1 h2 (by omega)), rfl⟩
  ·have qe : (a.to[k] == b.to[k]) = false := by simpa using he
   obtain rfl : q = false := by rw [← hq]; exact decide_eq_false (fun e => he (by subst e; rfl))
   refine Aa (A6 s2 s3 s5 hga hgb qe) ?_;exact Ab
 have e_to : a.to = b.to := Oz l1 fun j h1 h2 => hall j h1 h2 (by omega)
 by_cases h_server : a.server = b.server
 rotate_left
 ·have q_server : (a.server == b.server) = false := by simpa using h_server
  obtain rfl : q = false := by rw [← hq]; exact decide_eq_false (fun e => h_server (by rw [e]))
  refine Aa (A4 s2 s3 s5 q_server) ?_;exact Ab
 have q_server : (a.server == b.server) = true := by rw [h_server]; exact beq_self_eq_true _
 by_cases h_number : a.number = b.number
 rotate_left
 ·have q_number : (a.number == b.number) = false := by simpa using h_number
  obtain rfl : q = false := by rw [← hq]; exact decide_eq_false (fun e => h_number (by rw [e]))
  refine Aa (A5 s2 s3 s5 q_server q_number) ?_;exact Ab
 have q_number : (a.number == b.number) = true := by rw [h_number]; exact beq_self_eq_true _
 by_cases h_kind : a.kind = b.kind
 rotate_left
 ·have q_kind : (a.kind == b.kind) = false := by simpa using h_kind
  obtain rfl : q = false := by rw [← hq]; exact decide_eq_false (fun e => h_kind (by rw [e]))
  refine Aa (A6 s2 s3 s5 q_server q_number q_kind) ?_;exact Ab
 have q_kind : (a.kind == b.kind) = true := by rw [h_kind]; exact beq_self_eq_true _
 by_cases h_actor : a.actor = b.actor
 rotate_left
 ·have q_actor : (a.actor == b.actor) = false := by simpa using h_actor
  obtain rfl : q = false := by rw [← hq]; exact decide_eq_false (fun e => h_actor (by rw [e]))
  refine Aa (A7 s2 s3 s5 q_server q_number q_kind q_actor) ?_;exact Ab
 have q_actor : (a.actor == b.actor) = true := by rw [h_actor]; exact beq_self_eq_true _
 by_cases h_object : a.object = b.object
 rotate_left
 ·have q_object : (a.object == b.object) = false := by simpa using h_object
  obtain rfl : q = false := by rw [← hq]; exact decide_eq_false (fun e => h_object (by rw [e]))
  refine Aa (A8 s2 s3 s5 q_server q_number q_kind q_actor q_object) ?_;exact Ab
 have q_object : (a.object == b.object) = true := by rw [h_object]; exact beq_self_eq_true _
 by_cases h_text : a.text = b.text
 rotate_left
 ·have q_text : (a.text == b.text) = false := by simpa using h_text
  obtain rfl : q = false := by rw [← hq]; exact decide_eq_false (fun e => h_text (by rw [e]))
  refine Aa (A9 s2 s3 s5 q_server q_number q_kind q_actor q_object q_text) ?_;exact Ab
 have q_text : (a.text == b.text) = true := by rw [h_text]; exact beq_self_eq_true _
 by_cases h_n : a.n = b.n
 rotate_left
 ·have q_n : (a.n == b.n) = false := by simpa using h_n
  obtain rfl : q = false := by rw [← hq]; exact decide_eq_false (fun e => h_n (by rw [e]))
  refine Aa (Gv s2 s3 s5 q_server q_number q_kind q_actor q_object q_text q_n) ?_;exact Ab
 have q_n : (a.n == b.n) = true := by rw [h_n]; exact beq_self_eq_true _
 by_cases h_frm : a.frm = b.frm
 rotate_left
 ·have q_frm : (a.frm == b.frm) = false := by simpa using h_frm
  obtain rfl : q = false := by rw [← hq]; exact decide_eq_false (fun e => h_frm (by rw [e]))
  refine Aa (Bg s2 s3 s5 q_server q_number q_kind q_actor q_object q_text q_n q_frm) ?_;exact Ab
 have q_frm : (a.frm == b.frm) = true := by rw [h_frm]; exact beq_self_eq_true _
 by_cases h_til : a.til = b.til
 rotate_left
 ·have q_til : (a.til == b.til) = false := by simpa using h_til
  obtain rfl : q = false := by rw [← hq]; exact decide_eq_false (fun e => h_til (by rw [e]))
  refine Aa (an s2 (Bg s3 s5 q_server q_number q_kind q_actor q_object q_text q_n q_frm q_til)) ?_;exact Ab
 have q_til : (a.til == b.til) = true := by rw [h_til]; exact beq_self_eq_true _
 by_cases h_sig_e : a.sig.e = b.sig.e
 rotate_left
 ·have q_sig_e : (a.sig.e == b.sig.e) = false := by simpa using h_sig_e
  obtain rfl : q = false := by rw [← hq]; exact decide_eq_false (fun e => h_sig_e (by rw [e]))
  refine Aa (an s2 (an s3 (Bg s5 q_server q_number q_kind q_actor q_object q_text q_n q_frm q_til q_sig_e))) ?_;exact Ab
 have q_sig_e : (a.sig.e == b.sig.e) = true := by rw [h_sig_e]; exact beq_self_eq_true _
 by_cases h_sig_s : a.sig.s = b.sig.s
 rotate_left
 ·have q_sig_s : (a.sig.s == b.sig.s) = false := by simpa using h_sig_s
  obtain rfl : q = false := by rw [← hq]; exact decide_eq_false (fun e => h_sig_s (by rw [e]))
  refine Aa (an s2 (an s3 (an s5 (Bg q_server q_number q_kind q_actor q_object q_text q_n q_frm q_til q_sig_e q_sig_s)))) ?_;exact Ab
 have q_sig_s : (a.sig.s == b.sig.s) = true := by rw [h_sig_s]; exact beq_self_eq_true _
 obtain rfl : q = true := by
  rw [← hq];refine decide_eq_true ?_
  cases a; cases b
  rename_i x1 x2 x3 x4 x5 x6 x7 x8 x9 x10 x11 y1 y2 y3 y4 y5 y6 y7 y8 y9 y10 y11
  cases x11; cases y11
  simp only at *
  simp only [*]
 refine Aa (an s2 (an s3 (an s5 (Bg q_server q_number q_kind q_actor q_object q_text q_n q_frm q_til q_sig_e q_sig_s)))) ?_;exact Ab
end Pe
end
section
namespace Pe
open Tryz
open Go Go.RowKit Co Sg Ac It
set_option maxRecDepth 100000
set_option maxHeartbeats 4000000
theorem B0 (n lo hi : Int) : AC prog 109 [.it .i64 n, .it .i64 lo, .it .i64 hi] [] (.bo (wi n lo hi)) [] := by
 refine As [] [] func109 ?_;unfold wi;by_cases h : lo ≤ n
 ·rw [decide_eq_true h]
  refine run ?_;exact Ab
 ·rw [decide_eq_false h]
  refine run ?_;exact Ab
theorem OW (s : Sig) : AC prog 171 [H5 s] [] (.bo (AT s)) [] := by
 refine As [109] [] func171 ?_;unfold AT;refine run ?_;refine cp (B0 s.e 0 2305843009213693949) ?_;cases h : wi s.e 0 2305843009213693949 with
 | false =>
  refine run ?_;exact Ab
 | true =>
  refine run ?_;refine cp (B0 s.s 0 2305843009213693949) ?_;refine run ?_;exact Ab
theorem Zdj (c : It.Claim) (ha : c.actor.length ≤ 140737488355328) : AC prog 104 [KP c] [] (.bo (D0 c)) [] := by
 refine As [169, 109, 171] [] func104 ?_;obtain ⟨q, hq⟩ : ∃ q, D0 c = q := ⟨_, rfl⟩
 rw [hq];unfold D0 at hq;refine run ?_;refine cp (BZ c.actor ha) ?_;cases c0 : Ax c.actor with
 | false =>
  obtain rfl : q = false := by rw [← hq, c0]; simp
  refine run ?_;refine cp (B0 c.base 1 1073741824) ?_;cases n0 : wi c.base 1 1073741824 with
  | false =>
   refine run ?_;exact Ab
  | true =>
  refine run ?_;refine cp (B0 c.gen 0 1073741824) ?_;cases n1 : wi c.gen 0 1073741824 with
  | false =>
   refine run ?_;exact Ab
  | true =>
  refine run ?_;refine cp (B0 c.home 0 19) ?_;cases n2 : wi c.home 0 19 with
  | false =>
   refine run ?_;exact Ab
  | true =>
  refine run ?_;refine cp (B0 c.pub 1 2305843009213693950) ?_;cases n3 : wi c.pub 1 2305843009213693950 with
  | false =>
   refine run ?_;exact Ab
  | true =>
  refine run ?_;refine cp (B0 c.time 0 1099511627776) ?_;cases n4 : wi c.time 0 1099511627776 with
  | false =>
   refine run ?_;exact Ab
  | true =>
  refine run ?_;exact Ab
 | true =>
  refine run ?_;refine cp (B0 c.base 1 1073741824) ?_;cases n0 : wi c.base 1 1073741824 with
  | false =>
   obtain rfl : q = false := by rw [← hq]; simp [n0, Ca, isTime]
   refine run ?_;exact Ab
  | true =>
  refine run ?_;refine cp (B0 c.gen 0 1073741824) ?_;cases n1 : wi c.gen 0 1073741824 with
  | false =>
   obtain rfl : q = false := by rw [← hq]; simp [n1, Ca, isTime]
   refine run ?_;exact Ab
  | true =>
  refine run ?_;refine cp (B0 c.home 0 19) ?_;cases n2 : wi c.home 0 19 with
  | false =>
   obtain rfl : q = false := by rw [← hq]; simp [n2, Ca, isTime]
   refine run ?_;exact Ab
  | true =>
  refine run ?_;refine cp (B0 c.pub 1 2305843009213693950) ?_;cases n3 : wi c.pub 1 2305843009213693950 with
  | false =>
   obtain rfl : q = false := by rw [← hq]; simp [n3, Ca, isTime]
   refine run ?_;exact Ab
  | true =>
  refine run ?_;refine cp (B0 c.time 0 1099511627776) ?_;cases n4 : wi c.time 0 1099511627776 with
  | false =>
   obtain rfl : q = false := by rw [← hq]; simp [n4, Ca, isTime]
   refine run ?_;exact Ab
  | true =>
  have hd := B5 c.prev;cases cd : ((c.prev.length : Int) == 32) with
  | false =>
   obtain rfl : q = false := by rw [← hq, hd, cd]; simp
   refine Aa cd ?_;exact Ab
  | true =>
  obtain rfl : q = AT c.sig := by rw [← hq, hd, cd]; simp [c0, n0, n1, n2, n3, n4, Ca, isTime]
  refine Aa cd ?_;refine cp (OW c.sig) ?_;refine run ?_;exact Ab
theorem ZcH (c : It.Ballot) (ha : c.actor.length ≤ 140737488355328) : AC prog 105 [KW c] [] (.bo (D2 c)) [] := by
 refine As [169, 109, 171] [] func105 ?_;obtain ⟨q, hq⟩ : ∃ q, D2 c = q := ⟨_, rfl⟩
 rw [hq];unfold D2 at hq;refine run ?_;refine cp (BZ c.actor ha) ?_;cases c0 : Ax c.actor with
 | false =>
  obtain rfl : q = false := by rw [← hq, c0]; simp
  refine run ?_;refine cp (B0 c.server 0 19) ?_;cases n0 : wi c.server 0 19 with
  | false =>
   refine run ?_;exact Ab
  | true =>
  refine run ?_;refine cp (B0 c.gen 0 1073741824) ?_;cases n1 : wi c.gen 0 1073741824 with
  | false =>
   refine run ?_;exact Ab
  | true =>
  refine run ?_;refine cp (B0 c.time 0 1099511627776) ?_;cases n2 : wi c.time 0 1099511627776 with
  | false =>
   refine run ?_;exact Ab
  | true =>
  refine run ?_;exact Ab
 | true =>
  refine run ?_;refine cp (B0 c.server 0 19) ?_;cases n0 : wi c.server 0 19 with
  | false =>
   obtain rfl : q = false := by rw [← hq]; simp [n0, Ca, isTime]
   refine run ?_;exact Ab
  | true =>
  refine run ?_;refine cp (B0 c.gen 0 1073741824) ?_;cases n1 : wi c.gen 0 1073741824 with
  | false =>
   obtain rfl : q = false := by rw [← hq]; simp [n1, Ca, isTime]
   refine run ?_;exact Ab
  | true =>
  refine run ?_;refine cp (B0 c.time 0 1099511627776) ?_;cases n2 : wi c.time 0 1099511627776 with
  | false =>
   obtain rfl : q = false := by rw [← hq]; simp [n2, Ca, isTime]
   refine run ?_;exact Ab
  | true =>
  have hd := B5 c.claim;cases cd : ((c.claim.length : Int) == 32) with
  | false =>
   obtain rfl : q = false := by rw [← hq, hd, cd]; simp
   refine Aa cd ?_;exact Ab
  | true =>
  obtain rfl : q = AT c.sig := by rw [← hq, hd, cd]; simp [c0, n0, n1, n2, Ca, isTime]
  refine Aa cd ?_;refine cp (OW c.sig) ?_;refine run ?_;exact Ab
theorem YE (d : It.Decision) (h : wi d.kind 0 9 = false) : BP d = false := by
 unfold BP
 have : ¬ (0 ≤ d.kind ∧ d.kind ≤ 9) := fun e => by rw [AZ.2 e] at h; cases h
 rw [if_neg (by omega), if_neg (by omega), if_neg (by omega), if_neg (by omega)]
theorem Zdf (d : It.Decision) (ha : d.actor.length ≤ 140737488355328) (hts : ∀ s ∈ d.to, s.length ≤ 140737488355328) (htl : d.to.length ≤ 140737488355328) : AC prog 106 [FP d] [] (.bo (DZ d)) [] := by
 refine As [169, 172, 109, 171] [] func106 ?_;obtain ⟨q, hq⟩ : ∃ q, DZ d = q := ⟨_, rfl⟩
 rw [hq];unfold DZ at hq;have hn := EO;have hl := Il d.to;have hs := GE d.text;refine run ?_;refine cp (B0 d.server 0 19) ?_;cases n0 : wi d.server 0 19 with
 | false =>
  obtain rfl : q = false := by rw [← hq]; simp [n0, Ca, isTime]
  refine run ?_;exact Ab
 | true =>
 refine run ?_;refine cp (B0 d.number 0 1073741824) ?_;cases n1 : wi d.number 0 1073741824 with
 | false =>
  obtain rfl : q = false := by rw [← hq]; simp [n1, Ca, isTime]
  refine run ?_;exact Ab
 | true =>
 refine run ?_;refine cp (B0 d.kind 0 9) ?_;cases n2 : wi d.kind 0 9 with
 | false =>
  obtain rfl : q = false := by rw [← hq]; simp [YE d n2]
  refine run ?_;exact Ab
 | true =>
 refine run ?_;refine cp (B0 d.frm 0 1099511627776) ?_;cases n3 : wi d.frm 0 1099511627776 with
 | false =>
  obtain rfl : q = false := by rw [← hq]; simp [n3, Ca, isTime]
  refine run ?_;exact Ab
 | true =>
 refine run ?_;refine cp (B0 d.til 0 1099511627776) ?_;cases n4 : wi d.til 0 1099511627776 with
 | false =>
  obtain rfl : q = false := by rw [← hq]; simp [n4, Ca, isTime]
  refine run ?_;exact Ab
 | true =>
 by_cases hft : d.frm < d.til
 rotate_left
 ·obtain rfl : q = false := by rw [← hq, decide_eq_false hft]; simp
  refine run ?_;exact Ab
 refine run ?_;refine cp (OW d.sig) ?_;cases cs : AT d.sig with
 | false =>
  obtain rfl : q = false := by rw [← hq, cs]; simp
  refine run ?_;exact Ab
 | true =>
 have hk := AZ.1 n2;obtain rfl : q = BP d := by rw [← hq, cs, decide_eq_true hft]; simp [n0, n1, n3, n4, Ca, isTime]
 clear hq;obtain ⟨pl, hpl⟩ : ∃ pl, Aw d = pl := ⟨_, rfl⟩
 have hks : d.kind = 0 ∨ d.kind = 1 ∨ d.kind = 2 ∨ d.kind = 3 ∨ d.kind = 4 ∨ d.kind = 5 ∨ d.kind = 6 ∨ d.kind = 7 ∨ d.kind = 8 ∨ d.kind = 9 := by omega
 rcases hks with hk | hk | hk | hk | hk | hk | hk | hk | hk | hk
 ·have hv : BP d = (Ax d.actor && decide (d.object = []) && decide ((d.text.length : Int) ≤ 500) && Aw d) := by
   unfold BP;rw [if_pos (by omega), hs]
  rw [hv];cases ct : decide (d.to = []) with
  | false =>
   have hp : Aw d = false := by unfold Aw; rw [ct]; rfl
   rw [hp];refine Aa (A3 hn hl ct) ?_;refine cp (BZ d.actor ha) ?_;cases c0 : Ax d.actor with
   | false =>
    refine Aa (A3 hn hl ct) ?_;exact Ab
   | true =>
   cases c1 : decide (d.object = []) with
   | false =>
    refine Aa (A4 hn hl ct @c1) ?_;exact Ab
   | true =>
   cases c2 : decide ((d.text.length : Int) ≤ 500) with
   | false =>
    refine Aa (A5 hn hl @c1 ct c2) ?_;exact Ab
   | true =>
   refine Aa (A5 hn hl @c1 c2 ct) ?_;exact Ab
  | true =>
  by_cases hN : d.n = 0
  ·have hp : Aw d = true := by unfold Aw; rw [ct, decide_eq_true hN]; rfl
   rw [hp];refine Aa (A3 hn hl ct) ?_;refine cp (BZ d.actor ha) ?_;cases c0 : Ax d.actor with
   | false =>
    refine Aa (A3 hn hl ct) ?_;exact Ab
   | true =>
   cases c1 : decide (d.object = []) with
   | false =>
    refine Aa (A4 hn hl ct @c1) ?_;exact Ab
   | true =>
   cases c2 : decide ((d.text.length : Int) ≤ 500) with
   | false =>
    refine Aa (A5 hn hl @c1 ct c2) ?_;exact Ab
   | true =>
   refine Aa (A5 hn hl @c1 c2 ct) ?_;exact Ab
  ·have hp : Aw d = false := by unfold Aw; rw [decide_eq_false hN, Bool.and_false]
   rw [hp];refine Aa (A3 hn hl ct) ?_;refine cp (BZ d.actor ha) ?_;cases c0 : Ax d.actor with
   | false =>
    refine Aa (A3 hn hl ct) ?_;exact Ab
   | true =>
   cases c1 : decide (d.object = []) with
   | false =>
    refine Aa (A4 hn hl ct @c1) ?_;exact Ab
   | true =>
   cases c2 : decide ((d.text.length : Int) ≤ 500) with
   | false =>
    refine Aa (A5 hn hl @c1 ct c2) ?_;exact Ab
   | true =>
   refine Aa (A5 hn hl @c1 c2 ct) ?_;exact Ab
 ·have hv : BP d = (Ax d.actor && decide (d.object = []) && decide ((d.text.length : Int) ≤ 500) && Aw d) := by
   unfold BP;rw [if_pos (by omega), hs]
  rw [hv];cases ct : decide (d.to = []) with
  | false =>
   have hp : Aw d = false := by unfold Aw; rw [ct]; rfl
   rw [hp];refine Aa (A3 hn hl ct) ?_;refine cp (BZ d.actor ha) ?_;cases c0 : Ax d.actor with
   | false =>
    refine Aa (A3 hn hl ct) ?_;exact Ab
   | true =>
   cases c1 : decide (d.object = []) with
   | false =>
    refine Aa (A4 hn hl ct @c1) ?_;exact Ab
   | true =>
   cases c2 : decide ((d.text.length : Int) ≤ 500) with
   | false =>
    refine Aa (A5 hn hl @c1 ct c2) ?_;exact Ab
   | true =>
   refine Aa (A5 hn hl @c1 c2 ct) ?_;exact Ab
  | true =>
  by_cases hN : d.n = 0
  ·have hp : Aw d = true := by unfold Aw; rw [ct, decide_eq_true hN]; rfl
   rw [hp];refine Aa (A3 hn hl ct) ?_;refine cp (BZ d.actor ha) ?_;cases c0 : Ax d.actor with
   | false =>
    refine Aa (A3 hn hl ct) ?_;exact Ab
   | true =>
   cases c1 : decide (d.object = []) with
   | false =>
    refine Aa (A4 hn hl ct @c1) ?_;exact Ab
   | true =>
   cases c2 : decide ((d.text.length : Int) ≤ 500) with
   | false =>
    refine Aa (A5 hn hl @c1 ct c2) ?_;exact Ab
   | true =>
   refine Aa (A5 hn hl @c1 c2 ct) ?_;exact Ab
  ·have hp : Aw d = false := by unfold Aw; rw [decide_eq_false hN, Bool.and_false]
   rw [hp];refine Aa (A3 hn hl ct) ?_;refine cp (BZ d.actor ha) ?_;cases c0 : Ax d.actor with
   | false =>
    refine Aa (A3 hn hl ct) ?_;exact Ab
   | true =>
   cases c1 : decide (d.object = []) with
   | false =>
    refine Aa (A4 hn hl ct @c1) ?_;exact Ab
   | true =>
   cases c2 : decide ((d.text.length : Int) ≤ 500) with
   | false =>
    refine Aa (A5 hn hl @c1 ct c2) ?_;exact Ab
   | true =>
   refine Aa (A5 hn hl @c1 c2 ct) ?_;exact Ab
 ·have hv : BP d = (decide (d.actor = []) && Bd d.object && decide ((d.text.length : Int) ≤ 500) && Aw d) := by
   unfold BP;rw [if_neg (by omega), if_pos (by omega), hs]
  rw [hv];cases ct : decide (d.to = []) with
  | false =>
   have hp : Aw d = false := by unfold Aw; rw [ct]; rfl
   rw [hp];cases c0 : decide (d.actor = []) with
   | false =>
    refine Aa (A4 hn hl ct c0) ?_;exact Ab
   | true =>
   rw [B5];cases c1 : ((d.object.length : Int) == 32) with
   | false =>
    refine Aa (A5 hn hl c0 ct @c1) ?_;exact Ab
   | true =>
   cases c2 : decide ((d.text.length : Int) ≤ 500) with
   | false =>
    refine Aa (A6 hn hl c0 @c1 ct c2) ?_;exact Ab
   | true =>
   refine Aa (A6 hn hl c0 @c1 c2 ct) ?_;exact Ab
  | true =>
  by_cases hN : d.n = 0
  ·have hp : Aw d = true := by unfold Aw; rw [ct, decide_eq_true hN]; rfl
   rw [hp];cases c0 : decide (d.actor = []) with
   | false =>
    refine Aa (A4 hn hl ct c0) ?_;exact Ab
   | true =>
   rw [B5];cases c1 : ((d.object.length : Int) == 32) with
   | false =>
    refine Aa (A5 hn hl c0 ct @c1) ?_;exact Ab
   | true =>
   cases c2 : decide ((d.text.length : Int) ≤ 500) with
   | false =>
    refine Aa (A6 hn hl c0 @c1 ct c2) ?_;exact Ab
   | true =>
   refine Aa (A6 hn hl c0 @c1 c2 ct) ?_;exact Ab
  ·have hp : Aw d = false := by unfold Aw; rw [decide_eq_false hN, Bool.and_false]
   rw [hp];cases c0 : decide (d.actor = []) with
   | false =>
    refine Aa (A4 hn hl ct c0) ?_;exact Ab
   | true =>
   rw [B5];cases c1 : ((d.object.length : Int) == 32) with
   | false =>
    refine Aa (A5 hn hl c0 ct @c1) ?_;exact Ab
   | true =>
   cases c2 : decide ((d.text.length : Int) ≤ 500) with
   | false =>
    refine Aa (A6 hn hl c0 @c1 ct c2) ?_;exact Ab
   | true =>
   refine Aa (A6 hn hl c0 @c1 c2 ct) ?_;exact Ab
 ·have hv : BP d = (decide (d.actor = []) && Bd d.object && decide ((d.text.length : Int) ≤ 500) && Aw d) := by
   unfold BP;rw [if_neg (by omega), if_pos (by omega), hs]
  rw [hv];cases ct : decide (d.to = []) with
  | false =>
   have hp : Aw d = false := by unfold Aw; rw [ct]; rfl
   rw [hp];cases c0 : decide (d.actor = []) with
   | false =>
    refine Aa (A4 hn hl ct c0) ?_;exact Ab
   | true =>
   rw [B5];cases c1 : ((d.object.length : Int) == 32) with
   | false =>
    refine Aa (A5 hn hl c0 ct @c1) ?_;exact Ab
   | true =>
   cases c2 : decide ((d.text.length : Int) ≤ 500) with
   | false =>
    refine Aa (A6 hn hl c0 @c1 ct c2) ?_;exact Ab
   | true =>
   refine Aa (A6 hn hl c0 @c1 c2 ct) ?_;exact Ab
  | true =>
  by_cases hN : d.n = 0
  ·have hp : Aw d = true := by unfold Aw; rw [ct, decide_eq_true hN]; rfl
   rw [hp];cases c0 : decide (d.actor = []) with
   | false =>
    refine Aa (A4 hn hl ct c0) ?_;exact Ab
   | true =>
   rw [B5];cases c1 : ((d.object.length : Int) == 32) with
   | false =>
    refine Aa (A5 hn hl c0 ct @c1) ?_;exact Ab
   | true =>
   cases c2 : decide ((d.text.length : Int) ≤ 500) with
   | false =>
    refine Aa (A6 hn hl c0 @c1 ct c2) ?_;exact Ab
   | true =>
   refine Aa (A6 hn hl c0 @c1 c2 ct) ?_;exact Ab
  ·have hp : Aw d = false := by unfold Aw; rw [decide_eq_false hN, Bool.and_false]
   rw [hp];cases c0 : decide (d.actor = []) with
   | false =>
    refine Aa (A4 hn hl ct c0) ?_;exact Ab
   | true =>
   rw [B5];cases c1 : ((d.object.length : Int) == 32) with
   | false =>
    refine Aa (A5 hn hl c0 ct @c1) ?_;exact Ab
   | true =>
   cases c2 : decide ((d.text.length : Int) ≤ 500) with
   | false =>
    refine Aa (A6 hn hl c0 @c1 ct c2) ?_;exact Ab
   | true =>
   refine Aa (A6 hn hl c0 @c1 c2 ct) ?_;exact Ab
 ·have hv : BP d = (Ax d.actor && decide (d.object = []) && decide ((d.text.length : Int) ≤ 500) && Aw d) := by
   unfold BP;rw [if_pos (by omega), hs]
  rw [hv];cases ct : decide (d.to = []) with
  | false =>
   have hp : Aw d = false := by unfold Aw; rw [ct]; rfl
   rw [hp];refine Aa (A3 hn hl ct) ?_;refine cp (BZ d.actor ha) ?_;cases c0 : Ax d.actor with
   | false =>
    refine Aa (A3 hn hl ct) ?_;exact Ab
   | true =>
   cases c1 : decide (d.object = []) with
   | false =>
    refine Aa (A4 hn hl ct @c1) ?_;exact Ab
   | true =>
   cases c2 : decide ((d.text.length : Int) ≤ 500) with
   | false =>
    refine Aa (A5 hn hl @c1 ct c2) ?_;exact Ab
   | true =>
   refine Aa (A5 hn hl @c1 c2 ct) ?_;exact Ab
  | true =>
  by_cases hN : d.n = 0
  ·have hp : Aw d = true := by unfold Aw; rw [ct, decide_eq_true hN]; rfl
   rw [hp];refine Aa (A3 hn hl ct) ?_;refine cp (BZ d.actor ha) ?_;cases c0 : Ax d.actor with
   | false =>
    refine Aa (A3 hn hl ct) ?_;exact Ab
   | true =>
   cases c1 : decide (d.object = []) with
   | false =>
    refine Aa (A4 hn hl ct @c1) ?_;exact Ab
   | true =>
   cases c2 : decide ((d.text.length : Int) ≤ 500) with
   | false =>
    refine Aa (A5 hn hl @c1 ct c2) ?_;exact Ab
   | true =>
   refine Aa (A5 hn hl @c1 c2 ct) ?_;exact Ab
  ·have hp : Aw d = false := by unfold Aw; rw [decide_eq_false hN, Bool.and_false]
   rw [hp];refine Aa (A3 hn hl ct) ?_;refine cp (BZ d.actor ha) ?_;cases c0 : Ax d.actor with
   | false =>
    refine Aa (A3 hn hl ct) ?_;exact Ab
   | true =>
   cases c1 : decide (d.object = []) with
   | false =>
    refine Aa (A4 hn hl ct @c1) ?_;exact Ab
   | true =>
   cases c2 : decide ((d.text.length : Int) ≤ 500) with
   | false =>
    refine Aa (A5 hn hl @c1 ct c2) ?_;exact Ab
   | true =>
   refine Aa (A5 hn hl @c1 c2 ct) ?_;exact Ab
 ·have hv : BP d = (decide (d.actor = []) && Bd d.object && decide ((d.text.length : Int) ≤ 500) && Aw d) := by
   unfold BP;rw [if_neg (by omega), if_pos (by omega), hs]
  rw [hv];cases ct : decide (d.to = []) with
  | false =>
   have hp : Aw d = false := by unfold Aw; rw [ct]; rfl
   rw [hp];cases c0 : decide (d.actor = []) with
   | false =>
    refine Aa (A4 hn hl ct c0) ?_;exact Ab
   | true =>
   rw [B5];cases c1 : ((d.object.length : Int) == 32) with
   | false =>
    refine Aa (A5 hn hl c0 ct @c1) ?_;exact Ab
   | true =>
   cases c2 : decide ((d.text.length : Int) ≤ 500) with
   | false =>
    refine Aa (A6 hn hl c0 @c1 ct c2) ?_;exact Ab
   | true =>
   refine Aa (A6 hn hl c0 @c1 c2 ct) ?_;exact Ab
  | true =>
  by_cases hN : d.n = 0
  ·have hp : Aw d = true := by unfold Aw; rw [ct, decide_eq_true hN]; rfl
   rw [hp];cases c0 : decide (d.actor = []) with
   | false =>
    refine Aa (A4 hn hl ct c0) ?_;exact Ab
   | true =>
   rw [B5];cases c1 : ((d.object.length : Int) == 32) with
   | false =>
    refine Aa (A5 hn hl c0 ct @c1) ?_;exact Ab
   | true =>
   cases c2 : decide ((d.text.length : Int) ≤ 500) with
   | false =>
    refine Aa (A6 hn hl c0 @c1 ct c2) ?_;exact Ab
   | true =>
   refine Aa (A6 hn hl c0 @c1 c2 ct) ?_;exact Ab
  ·have hp : Aw d = false := by unfold Aw; rw [decide_eq_false hN, Bool.and_false]
   rw [hp];cases c0 : decide (d.actor = []) with
   | false =>
    refine Aa (A4 hn hl ct c0) ?_;exact Ab
   | true =>
   rw [B5];cases c1 : ((d.object.length : Int) == 32) with
   | false =>
    refine Aa (A5 hn hl c0 ct @c1) ?_;exact Ab
   | true =>
   cases c2 : decide ((d.text.length : Int) ≤ 500) with
   | false =>
    refine Aa (A6 hn hl c0 @c1 ct c2) ?_;exact Ab
   | true =>
   refine Aa (A6 hn hl c0 @c1 c2 ct) ?_;exact Ab
 ·have hv : BP d = (Ax d.actor && decide (d.object = []) && decide ((d.text.length : Int) ≤ 500) && Aw d) := by
   unfold BP;rw [if_pos (by omega), hs]
  rw [hv];cases ct : decide (d.to = []) with
  | false =>
   have hp : Aw d = false := by unfold Aw; rw [ct]; rfl
   rw [hp];refine Aa (A3 hn hl ct) ?_;refine cp (BZ d.actor ha) ?_;cases c0 : Ax d.actor with
   | false =>
    refine Aa (A3 hn hl ct) ?_;exact Ab
   | true =>
   cases c1 : decide (d.object = []) with
   | false =>
    refine Aa (A4 hn hl ct @c1) ?_;exact Ab
   | true =>
   cases c2 : decide ((d.text.length : Int) ≤ 500) with
   | false =>
    refine Aa (A5 hn hl @c1 ct c2) ?_;exact Ab
   | true =>
   refine Aa (A5 hn hl @c1 c2 ct) ?_;exact Ab
  | true =>
  by_cases hN : d.n = 0
  ·have hp : Aw d = true := by unfold Aw; rw [ct, decide_eq_true hN]; rfl
   rw [hp];refine Aa (A3 hn hl ct) ?_;refine cp (BZ d.actor ha) ?_;cases c0 : Ax d.actor with
   | false =>
    refine Aa (A3 hn hl ct) ?_;exact Ab
   | true =>
   cases c1 : decide (d.object = []) with
   | false =>
    refine Aa (A4 hn hl ct @c1) ?_;exact Ab
   | true =>
   cases c2 : decide ((d.text.length : Int) ≤ 500) with
   | false =>
    refine Aa (A5 hn hl @c1 ct c2) ?_;exact Ab
   | true =>
   refine Aa (A5 hn hl @c1 c2 ct) ?_;exact Ab
  ·have hp : Aw d = false := by unfold Aw; rw [decide_eq_false hN, Bool.and_false]
   rw [hp];refine Aa (A3 hn hl ct) ?_;refine cp (BZ d.actor ha) ?_;cases c0 : Ax d.actor with
   | false =>
    refine Aa (A3 hn hl ct) ?_;exact Ab
   | true =>
   cases c1 : decide (d.object = []) with
   | false =>
    refine Aa (A4 hn hl ct @c1) ?_;exact Ab
   | true =>
   cases c2 : decide ((d.text.length : Int) ≤ 500) with
   | false =>
    refine Aa (A5 hn hl @c1 ct c2) ?_;exact Ab
   | true =>
   refine Aa (A5 hn hl @c1 c2 ct) ?_;exact Ab
 ·have hv : BP d = (Ax d.actor && decide (d.object = []) && decide ((d.text.length : Int) ≤ 500) && Aw d) := by
   unfold BP;rw [if_pos (by omega), hs]
  rw [hv];cases ct : decide (d.to = []) with
  | false =>
   have hp : Aw d = false := by unfold Aw; rw [ct]; rfl
   rw [hp];refine Aa (A3 hn hl ct) ?_;refine cp (BZ d.actor ha) ?_;cases c0 : Ax d.actor with
   | false =>
    refine Aa (A3 hn hl ct) ?_;exact Ab
   | true =>
   cases c1 : decide (d.object = []) with
   | false =>
    refine Aa (A4 hn hl ct @c1) ?_;exact Ab
   | true =>
   cases c2 : decide ((d.text.length : Int) ≤ 500) with
   | false =>
    refine Aa (A5 hn hl @c1 ct c2) ?_;exact Ab
   | true =>
   refine Aa (A5 hn hl @c1 c2 ct) ?_;exact Ab
  | true =>
  by_cases hN : d.n = 0
  ·have hp : Aw d = true := by unfold Aw; rw [ct, decide_eq_true hN]; rfl
   rw [hp];refine Aa (A3 hn hl ct) ?_;refine cp (BZ d.actor ha) ?_;cases c0 : Ax d.actor with
   | false =>
    refine Aa (A3 hn hl ct) ?_;exact Ab
   | true =>
   cases c1 : decide (d.object = []) with
   | false =>
    refine Aa (A4 hn hl ct @c1) ?_;exact Ab
   | true =>
   cases c2 : decide ((d.text.length : Int) ≤ 500) with
   | false =>
    refine Aa (A5 hn hl @c1 ct c2) ?_;exact Ab
   | true =>
   refine Aa (A5 hn hl @c1 c2 ct) ?_;exact Ab
  ·have hp : Aw d = false := by unfold Aw; rw [decide_eq_false hN, Bool.and_false]
   rw [hp];refine Aa (A3 hn hl ct) ?_;refine cp (BZ d.actor ha) ?_;cases c0 : Ax d.actor with
   | false =>
    refine Aa (A3 hn hl ct) ?_;exact Ab
   | true =>
   cases c1 : decide (d.object = []) with
   | false =>
    refine Aa (A4 hn hl ct @c1) ?_;exact Ab
   | true =>
   cases c2 : decide ((d.text.length : Int) ≤ 500) with
   | false =>
    refine Aa (A5 hn hl @c1 ct c2) ?_;exact Ab
   | true =>
   refine Aa (A5 hn hl @c1 c2 ct) ?_;exact Ab
 ·have hv : BP d = (decide (d.actor = []) && decide (d.object = []) && decide ((d.text.length : Int) ≤ 500) && BS d.to && wi d.n 1 d.to.length) := by
   unfold BP;rw [if_neg (by omega), if_neg (by omega), if_pos (by omega), hs]
  rw [hv];cases ct : decide (d.to = []) with
  | false =>
   refine Aa (A3 hn hl ct) ?_;refine cp (Ir d.to hts htl) ?_;cases c0 : BS d.to with
   | false =>
    cases c1 : decide (d.actor = []) with
    | false =>
     refine Aa (A4 hn hl ct @c1) ?_;exact Ab
    | true =>
    cases c2 : decide (d.object = []) with
    | false =>
     refine Aa (A5 hn hl ct @c1 c2) ?_;exact Ab
    | true =>
    cases c3 : decide ((d.text.length : Int) ≤ 500) with
    | false =>
     refine Aa (A6 hn hl ct @c1 c2 c3) ?_;exact Ab
    | true =>
    refine Aa (A6 hn hl ct @c1 c2 c3) ?_;exact Ab
   | true =>
    cases c1 : decide (d.actor = []) with
    | false =>
     refine Aa (A4 hn hl ct @c1) ?_;exact Ab
    | true =>
    cases c2 : decide (d.object = []) with
    | false =>
     refine Aa (A5 hn hl ct @c1 c2) ?_;exact Ab
    | true =>
    cases c3 : decide ((d.text.length : Int) ≤ 500) with
    | false =>
     refine Aa (A6 hn hl ct @c1 c2 c3) ?_;exact Ab
    | true =>
    refine Aa (A6 hn hl ct @c1 c2 c3) ?_;refine cp (B0 d.n 1 d.to.length) ?_;refine run ?_;exact Ab
  | true =>
  by_cases hN : d.n = 0
  ·skip
   refine Aa (A3 hn hl ct) ?_;refine cp (Ir d.to hts htl) ?_;cases c0 : BS d.to with
   | false =>
    cases c1 : decide (d.actor = []) with
    | false =>
     refine Aa (A4 hn hl ct @c1) ?_;exact Ab
    | true =>
    cases c2 : decide (d.object = []) with
    | false =>
     refine Aa (A5 hn hl ct @c1 c2) ?_;exact Ab
    | true =>
    cases c3 : decide ((d.text.length : Int) ≤ 500) with
    | false =>
     refine Aa (A6 hn hl ct @c1 c2 c3) ?_;exact Ab
    | true =>
    refine Aa (A6 hn hl ct @c1 c2 c3) ?_;exact Ab
   | true =>
    cases c1 : decide (d.actor = []) with
    | false =>
     refine Aa (A4 hn hl ct @c1) ?_;exact Ab
    | true =>
    cases c2 : decide (d.object = []) with
    | false =>
     refine Aa (A5 hn hl ct @c1 c2) ?_;exact Ab
    | true =>
    cases c3 : decide ((d.text.length : Int) ≤ 500) with
    | false =>
     refine Aa (A6 hn hl ct @c1 c2 c3) ?_;exact Ab
    | true =>
    refine Aa (A6 hn hl ct @c1 c2 c3) ?_;refine cp (B0 d.n 1 d.to.length) ?_;refine run ?_;exact Ab
  ·skip
   refine Aa (A3 hn hl ct) ?_;refine cp (Ir d.to hts htl) ?_;cases c0 : BS d.to with
   | false =>
    cases c1 : decide (d.actor = []) with
    | false =>
     refine Aa (A4 hn hl ct @c1) ?_;exact Ab
    | true =>
    cases c2 : decide (d.object = []) with
    | false =>
     refine Aa (A5 hn hl ct @c1 c2) ?_;exact Ab
    | true =>
    cases c3 : decide ((d.text.length : Int) ≤ 500) with
    | false =>
     refine Aa (A6 hn hl ct @c1 c2 c3) ?_;exact Ab
    | true =>
    refine Aa (A6 hn hl ct @c1 c2 c3) ?_;exact Ab
   | true =>
    cases c1 : decide (d.actor = []) with
    | false =>
     refine Aa (A4 hn hl ct @c1) ?_;exact Ab
    | true =>
    cases c2 : decide (d.object = []) with
    | false =>
     refine Aa (A5 hn hl ct @c1 c2) ?_;exact Ab
    | true =>
    cases c3 : decide ((d.text.length : Int) ≤ 500) with
    | false =>
     refine Aa (A6 hn hl ct @c1 c2 c3) ?_;exact Ab
    | true =>
    refine Aa (A6 hn hl ct @c1 c2 c3) ?_;refine cp (B0 d.n 1 d.to.length) ?_;refine run ?_;exact Ab
 ·have hv : BP d = (decide (d.actor = []) && decide (d.object = []) && decide ((d.text.length : Int) ≤ 4096) && Aw d) := by
   unfold BP;rw [if_neg (by omega), if_neg (by omega), if_neg (by omega), if_pos (by omega), show decide (d.text.length ≤ 4096) = decide ((d.text.length : Int) ≤ 4096) by rw [Bool.eq_iff_iff]; simp only [decide_eq_true_eq]; omega]
  rw [hv];cases ct : decide (d.to = []) with
  | false =>
   have hp : Aw d = false := by unfold Aw; rw [ct]; rfl
   rw [hp];cases c0 : decide (d.actor = []) with
   | false =>
    refine Aa (A4 hn hl ct c0) ?_;exact Ab
   | true =>
   cases c1 : decide (d.object = []) with
   | false =>
    refine Aa (A5 hn hl c0 ct @c1) ?_;exact Ab
   | true =>
   cases c2 : decide ((d.text.length : Int) ≤ 4096) with
   | false =>
    refine Aa (A6 hn hl c0 @c1 ct c2) ?_;exact Ab
   | true =>
   refine Aa (A6 hn hl c0 @c1 c2 ct) ?_;exact Ab
  | true =>
  by_cases hN : d.n = 0
  ·have hp : Aw d = true := by unfold Aw; rw [ct, decide_eq_true hN]; rfl
   rw [hp];cases c0 : decide (d.actor = []) with
   | false =>
    refine Aa (A4 hn hl ct c0) ?_;exact Ab
   | true =>
   cases c1 : decide (d.object = []) with
   | false =>
    refine Aa (A5 hn hl c0 ct @c1) ?_;exact Ab
   | true =>
   cases c2 : decide ((d.text.length : Int) ≤ 4096) with
   | false =>
    refine Aa (A6 hn hl c0 @c1 ct c2) ?_;exact Ab
   | true =>
   refine Aa (A6 hn hl c0 @c1 c2 ct) ?_;exact Ab
  ·have hp : Aw d = false := by unfold Aw; rw [decide_eq_false hN, Bool.and_false]
   rw [hp];cases c0 : decide (d.actor = []) with
   | false =>
    refine Aa (A4 hn hl ct c0) ?_;exact Ab
   | true =>
   cases c1 : decide (d.object = []) with
   | false =>
    refine Aa (A5 hn hl c0 ct @c1) ?_;exact Ab
   | true =>
   cases c2 : decide ((d.text.length : Int) ≤ 4096) with
   | false =>
    refine Aa (A6 hn hl c0 @c1 ct c2) ?_;exact Ab
   | true =>
   refine Aa (A6 hn hl c0 @c1 c2 ct) ?_;exact Ab
theorem Zey (c : It.Claim) : (c.actor == [] && (c.base == 0 && (c.prev == [] && (c.gen == 0 && (c.home == 0 && (c.pub == 0 && (c.time == 0 && (c.sig.e == 0 && c.sig.s == 0)))))))) = decide (c = CZ) := by
 obtain ⟨a, b, p, g, h, u, t, ⟨x, y⟩⟩ := c;rw [Bool.eq_iff_iff];simp [CZ, BX]
theorem Ze5 (c : It.Ballot) : (c.server == 0 && (c.actor == [] && (c.gen == 0 && (c.claim == [] && (c.time == 0 && (c.sig.e == 0 && c.sig.s == 0)))))) = decide (c = C0) := by
 obtain ⟨s, a, g, h, t, ⟨x, y⟩⟩ := c;rw [Bool.eq_iff_iff];simp [C0, BX]
theorem TV (i : It.Item) (h : Iz i) : AC prog 51 [Bc i] [] (.bo (It.right i)) [] := by
 refine As [101, 102, 103, 104, 105, 106] [] func51 ?_;have lz := h.lz;have k1 := ZcM i.act BU ⟨lz.to, lz.wraps⟩ ⟨by decide, by decide⟩
 have k4 := ZcL i.decision CI lz.dto (by decide)
 have e1 := Zey i.claim;have e2 := Ze5 i.ballot;refine run ?_;refine cp k1 ?_;refine Aa (an e1 e2) ?_;refine cp k4 ?_;by_cases h0 : i.kind = 0
 ·have hv : It.right i = (Ac.right i.act && decide (i.claim = CZ) && decide (i.ballot = C0) && decide (i.decision = CI)) := by
   rw [Bool.eq_iff_iff, It.right_act h0];simp [and_assoc]
  rw [hv];refine run ?_;refine cp (TW i.act h.act) ?_;cases c0 : Ac.right i.act with
  | false =>
   refine run ?_;exact Ab
  | true =>
  cases d1 : decide (i.claim = CZ) with
  | false =>
   refine run ?_;exact Ab
  | true =>
  cases d2 : decide (i.ballot = C0) with
  | false =>
   refine run ?_;exact Ab
  | true =>
  cases d3 : decide (i.decision = CI) with
  | false =>
   refine run ?_;exact Ab
  | true =>
  refine run ?_;exact Ab
 by_cases h1 : i.kind = 1
 ·have hv : It.right i = (D0 i.claim && decide (i.act = BU) && decide (i.ballot = C0) && decide (i.decision = CI)) := by
   rw [Bool.eq_iff_iff, It.right_claim h1];simp [and_assoc]
  rw [hv];refine run ?_;refine cp (Zdj i.claim h.claim) ?_;cases c0 : D0 i.claim with
  | false =>
   refine run ?_;exact Ab
  | true =>
  cases d0 : decide (i.act = BU) with
  | false =>
   refine run ?_;exact Ab
  | true =>
  cases d2 : decide (i.ballot = C0) with
  | false =>
   refine run ?_;exact Ab
  | true =>
  cases d3 : decide (i.decision = CI) with
  | false =>
   refine run ?_;exact Ab
  | true =>
  refine run ?_;exact Ab
 by_cases h2 : i.kind = 2
 ·have hv : It.right i = (D2 i.ballot && decide (i.act = BU) && decide (i.claim = CZ) && decide (i.decision = CI)) := by
   rw [Bool.eq_iff_iff, It.right_ballot h2];simp [and_assoc]
  rw [hv];refine run ?_;refine cp (ZcH i.ballot h.ballot) ?_;cases c0 : D2 i.ballot with
  | false =>
   refine run ?_;exact Ab
  | true =>
  cases d0 : decide (i.act = BU) with
  | false =>
   refine run ?_;exact Ab
  | true =>
  cases d1 : decide (i.claim = CZ) with
  | false =>
   refine run ?_;exact Ab
  | true =>
  cases d3 : decide (i.decision = CI) with
  | false =>
   refine run ?_;exact Ab
  | true =>
  refine run ?_;exact Ab
 by_cases h3 : i.kind = 3
 ·have hv : It.right i = (DZ i.decision && decide (i.act = BU) && decide (i.claim = CZ) && decide (i.ballot = C0)) := by
   rw [Bool.eq_iff_iff, It.right_decision h3];simp [and_assoc]
  rw [hv];refine run ?_;refine cp (Zdf i.decision h.decision.actor h.decision.tos h.decision.to) ?_;cases c0 : DZ i.decision with
  | false =>
   refine run ?_;exact Ab
  | true =>
  cases d0 : decide (i.act = BU) with
  | false =>
   refine run ?_;exact Ab
  | true =>
  cases d1 : decide (i.claim = CZ) with
  | false =>
   refine run ?_;exact Ab
  | true =>
  cases d2 : decide (i.ballot = C0) with
  | false =>
   refine run ?_;exact Ab
  | true =>
  refine run ?_;exact Ab
 ·have hv : It.right i = false := by
   cases hr : It.right i with
   | false => rfl
   | true => rcases It.right_kind hr with e | e | e | e <;> contradiction
  rw [hv];refine run ?_;exact Ab
theorem OX (s : Sig) (h : (0 ≤ s.e ∧ s.e ≤ 2305843009213693949) ∧ 0 ≤ s.s ∧ s.s ≤ 2305843009213693949) : AC prog 154 [H5 s] [] (.st (Ah s.e ++ Ah s.s)) [] := by
 refine As [110] [] func154 ?_;have n1 := Ak s.e (by omega)
 have n2 := Ak s.s (by omega)
 refine run ?_;refine cp (Bi s.e (by omega)) ?_
 refine run ?_;refine cp (Bi s.s (by omega)) ?_
 refine run ?_;exact Ab
theorem Pb (i : It.Item) (h : Iz i) : AC prog 92 [Bc i] [] (.st (It.bytes i)) [] := by
 refine As [51, 110, 152, 153, 155, 156, 154] [] func92 ?_;have kr := TV i h;cases hr : It.right i with
 | false =>
  rw [hr] at kr;rw [It.bytes_wrong hr];refine run ?_;refine cp kr ?_;refine run ?_;exact Ab
 | true =>
 rw [hr] at kr;have h3 := JY hr;have hkk := It.right_kind hr;have hl0 := Ak i.kind (by omega)
 have kn := Bi i.kind (by omega)
 by_cases h0 : i.kind = 0
 ·rw [VI hr h0]
  have k2 := Ul i.act h.act;have hl := M1 (a := i.act);generalize Ac.bytes i.act = z at *;generalize Ah i.kind = n0 at *;refine run ?_;refine cp kr ?_;refine run ?_;refine cp kn ?_;refine run ?_;refine cp k2 ?_;refine run ?_;exact Ab
 by_cases hk : i.kind = 1
 ·have hs := GD hr (by omega)
  have hb : It.bytes i = Ah i.kind ++ Da i.claim ++ (Ah i.claim.sig.e ++ Ah i.claim.sig.s) := by
   rw [It.bytes_right hr];unfold D9 EU BW;have e0 : i.kind ≠ 0 := by omega
   simp [hk]
  have hsg : BW i = i.claim.sig := by unfold BW; simp [hk]
  rw [hsg] at hs;simp only [AT, Bool.and_eq_true, AZ] at hs;rw [hb];have k2 := Zdk i.claim h3.ez.c h3.ez.ci;have k3 := OX i.claim.sig hs;have hl : (Da i.claim).length ≤ 60000000 := by have := Pw h3.ez; omega
  have n1 := Ak i.claim.sig.e (by omega)
  have n2 := Ak i.claim.sig.s (by omega)
  generalize Da i.claim = Bk at *;generalize Ah i.kind = n0 at *;generalize Ah i.claim.sig.e = ne at *;generalize Ah i.claim.sig.s = ns at *;refine run ?_;refine cp kr ?_;refine run ?_;refine cp kn ?_;refine run ?_;refine cp k2 ?_;refine run ?_;refine cp k3 ?_;refine run ?_;exact Ab
 by_cases hk : i.kind = 2
 ·have hs := GD hr (by omega)
  have hb : It.bytes i = Ah i.kind ++ Dc i.ballot ++ (Ah i.ballot.sig.e ++ Ah i.ballot.sig.s) := by
   rw [It.bytes_right hr];unfold D9 EU BW;have e0 : i.kind ≠ 0 := by omega
   simp [hk]
  have hsg : BW i = i.ballot.sig := by unfold BW; simp [hk]
  rw [hsg] at hs;simp only [AT, Bool.and_eq_true, AZ] at hs;rw [hb];have k2 := Zdl i.ballot h3.ez.b h3.ez.bi;have k3 := OX i.ballot.sig hs;have hl : (Dc i.ballot).length ≤ 60000000 := by have := PD h3.ez; omega
  have n1 := Ak i.ballot.sig.e (by omega)
  have n2 := Ak i.ballot.sig.s (by omega)
  generalize Dc i.ballot = Bk at *;generalize Ah i.kind = n0 at *;generalize Ah i.ballot.sig.e = ne at *;generalize Ah i.ballot.sig.s = ns at *;refine run ?_;refine cp kr ?_;refine run ?_;refine cp kn ?_;refine run ?_;refine cp k2 ?_;refine run ?_;refine cp k3 ?_;refine run ?_;exact Ab
 have hk : i.kind = 3 := by omega
 have hs := GD hr (by omega)
 have hb : It.bytes i = Ah i.kind ++ C8 i.decision ++ (Ah i.decision.sig.e ++ Ah i.decision.sig.s) := by
  rw [It.bytes_right hr];unfold D9 EU BW;have e0 : i.kind ≠ 0 := by omega
  simp [hk]
 have hsg : BW i = i.decision.sig := by unfold BW; simp [hk]
 rw [hsg] at hs;simp only [AT, Bool.and_eq_true, AZ] at hs;rw [hb];have k2 := Zde i.decision h3.ez.d h3.ez.dt h3.ez.di;have k3 := OX i.decision.sig hs;have hl : (C8 i.decision).length ≤ 60000000 := by have := Pn h3; omega
 have n1 := Ak i.decision.sig.e (by omega)
 have n2 := Ak i.decision.sig.s (by omega)
 generalize C8 i.decision = Bk at *;generalize Ah i.kind = n0 at *;generalize Ah i.decision.sig.e = ne at *;generalize Ah i.decision.sig.s = ns at *;refine run ?_;refine cp kr ?_;refine run ?_;refine cp kn ?_;refine run ?_;refine cp k2 ?_;refine run ?_;refine cp k3 ?_;refine run ?_;exact Ab
theorem ZeT {i : It.Item} (h : It.right i = true) : It.bytes i ≠ [] := by
 have hk := It.right_kind h;rw [It.bytes_right h];exact fun e => absurd (List.append_eq_nil_iff.1 e).1 (Mr (by omega))
theorem O9 (e : It.Entry) (h : Iz e.item) : AC prog 53 [Az e] [] (.st (AB e)) [] := by
 refine As [92, 109, 110] [] func53 ?_;have kb := Pb e.item h;have hl := M2 e.item;refine run ?_;refine cp kb ?_;cases hr : It.right e.item with
 | false =>
  have h0 := It.bytes_wrong hr;have h1 : AB e = [] := by unfold AB; rw [hr, Bool.and_false]; rfl
  rw [h1, h0];refine run ?_;exact Ab
 | true =>
  have hne := ZeT hr;have hq : (It.bytes e.item == []) = false := by simpa using hne
  have kt := B0 e.time 0 1099511627776;cases ht : wi e.time 0 1099511627776 with
  | false =>
   rw [ht] at kt;have h1 : AB e = [] := by unfold AB isTime; rw [ht]; rfl
   rw [h1];refine Aa hq ?_;refine cp kt ?_;refine Aa hq ?_;exact Ab
  | true =>
   rw [ht] at kt;have h1 : AB e = Ah e.time ++ It.bytes e.item := by unfold AB isTime; rw [ht, hr]; rfl
   have htm := AZ.1 ht;have n1 := Ak e.time (by omega)
   rw [h1];generalize It.bytes e.item = z at *;refine Aa hq ?_;refine cp kt ?_;refine Aa hq ?_;refine cp (Bi e.time (by omega)) ?_
   refine run ?_;exact Ab
end Pe
end
section
namespace Pe
open Tryz
open Go Sm Mk
set_option maxRecDepth 100000
theorem ZJ (n : Nat) (h : 2 ≤ n) (h' : n < 9223372036854775808) : AC prog 244 [.it .i64 n] [] (.it .i64 (sp n)) [] := by
 refine Ai [] [] func244 ?_;refine run ?_;refine Bp (fun m e S => S = [] ∧ e 0 = .it .i64 n ∧ ∃ j, e 3 = .it .i64 ((2 ^ j : Nat) : Int) ∧ 2 ^ j < n ∧ m = n - 2 ^ j) (n - 1) ⟨rfl, Ad, 0, Ad, by omega, rfl⟩ ?_
 rintro m e S ⟨rfl, h0, j, h3, hj, rfl⟩
 generalize hk : 2 ^ j = k at *;have hw : IntKind.i64.wrap ((n : Int) - (k : Int)) = (n : Int) - (k : Int) := wrap64 (by omega) (by omega)
 refine Aa (A3 h0 h3 hw) ?_;refine Ge (fun hc => ?_) (fun hc => ?_)
 ·have hlt : k < n - k := by simp at hc; omega
  have hw2 : IntKind.i64.wrap (2 * (k : Int)) = 2 * (k : Int) := wrap64 (by omega) (by omega)
  refine Aa (A3 h0 h3 hw2) ?_;exact AG (n - 2 * k) (by have := Nat.pow_pos (n := j) (show 0 < 2 by omega); omega) ⟨rfl, Ad, j + 1, by rw [Nat.pow_succ, hk, Nat.mul_comm]; exact Ad, by rw [Nat.pow_succ, hk]; omega, by rw [Nat.pow_succ, hk, Nat.mul_comm]⟩
 ·have hge : ¬ k < n - k := by simp at hc; omega
  refine Aa (an h0 h3) ?_;have e : sp n = k := by rw [← hk]; exact YV (by omega) (by rw [Nat.pow_succ]; omega)
  rw [e];exact Ct (by rfl) (by rfl) (by rfl)
theorem Zai (l : List UInt8) (h : l.length ≤ 1000000) : AC prog 271 [.st l] [] (.st (leaf l)) [] := by
 refine Ai [93] [] func271 ?_;refine run ?_;refine DF (I7 (0 :: l) (by simp; omega)) (by rfl) (by rfl) (by rfl) ?_
 refine run ?_;exact Ct (by rfl) (by rfl) (by rfl)
theorem ZS (l r : List UInt8) (h : l.length ≤ 1000000) (h' : r.length ≤ 1000000) : AC prog 270 [.st l, .st r] [] (.st (pre l r)) [] := by
 refine Ai [] [] func270 ?_;refine run ?_;exact Ct (by rfl) (by rfl) (by rfl)
theorem Zab (l r : List UInt8) (h : l.length ≤ 1000000) (h' : r.length ≤ 1000000) : AC prog 245 [.st l, .st r] [] (.st (Ki l r)) [] := by
 refine Ai [93, 270] [] func245 ?_;refine run ?_;refine DF (ZS l r h h') (by rfl) (by rfl) (by rfl) ?_
 refine run ?_;refine DF (I7 (pre l r) (by simp [pre]; omega)) (by rfl) (by rfl) (by rfl) ?_
 refine run ?_;exact Ct (by rfl) (by rfl) (by rfl)
theorem ZQ (k : Nat) : ∀ (l : List By), l.length ≤ k → l.length ≤ 1000000 → (∀ x ∈ l, x.length ≤ 1000000) →
  AC prog 180 [Bn l] [] (.st (root l)) [] := by
 induction k with
 | zero =>
  intro l hk hl hx
  have : l = [] := List.eq_nil_of_length_eq_zero (by omega)
  subst this;refine Ai [180, 244, 245, 93] [] func180 ?_;refine run ?_;refine DF (I7 [] (by simp)) (by rfl) (by rfl) (by rfl) ?_
  refine run ?_;exact Ct (by rfl) (by rfl) (by rfl)
 | succ k ih =>
  intro l hk hl hx;refine Ai [180, 244, 245, 93] [] func180 ?_;by_cases h0 : l.length = 0
  ·have : l = [] := List.eq_nil_of_length_eq_zero (by omega)
   subst this;refine run ?_;refine DF (I7 [] (by simp)) (by rfl) (by rfl) (by rfl) ?_
   refine run ?_;exact Ct (by rfl) (by rfl) (by rfl)
  rw [RA (by omega)]
  by_cases h1 : l.length = 1
  ·obtain ⟨a, rfl⟩ := List.length_eq_one_iff.1 h1
   refine run ?_;rw [NX (by simp)]
   exact Ct (by rfl) (by rfl) (by rfl)
  ·have h2 : 2 ≤ l.length := by omega
   have h3 := IY h2;have h4 := JV l.length;have ht : (List.take (sp l.length) l).length = sp l.length := by simp; omega
   have hd : (l.drop (sp l.length)).length = l.length - sp l.length := List.length_drop;have hxt : ∀ x ∈ l.take (sp l.length), x.length ≤ 1000000 := fun x hx' => hx x (List.mem_of_mem_take hx')
   have hxd : ∀ x ∈ l.drop (sp l.length), x.length ≤ 1000000 := fun x hx' => hx x (List.mem_of_mem_drop hx')
   have f1 := ih (l.take (sp l.length)) (by omega) (by omega) hxt
   have f2 := ih (l.drop (sp l.length)) (by omega) (by omega) hxd
   rw [RA (by omega)] at f1 f2
   refine run ?_;refine DF (ZJ l.length h2 (by omega)) (by rfl) (by rfl) (by rfl) ?_
   refine run ?_;refine DF f1 (by rfl) (by rfl) (by rfl) ?_
   refine Aa (@List.take_length (List UInt8)) ?_;refine DF f2 (by rfl) (by rfl) (by rfl) ?_
   refine run ?_;refine DF (Zab _ _ (Mb hxt) (Mb hxd)) (by rfl) (by rfl) (by rfl) ?_
   refine run ?_;rw [Ma h2];exact Ct (by rfl) (by rfl) (by rfl)
end Pe
end
section
namespace Pe
open Tryz
open Go Go.RowKit Co Sg Ac It Sl
set_option maxRecDepth 100000
set_option maxHeartbeats 4000000
theorem Zaj (e : It.Entry) (h : Iz e.item) : AC prog 246 [Az e] [] (.st (D5 e)) [] := by
 refine As [53, 271] [] func246 ?_;have hl := G2 e;have k1 := O9 e h;have k2 := Zai (AB e) (by omega)
 refine run ?_;refine cp k1 ?_;refine run ?_;refine cp k2 ?_;refine run ?_;exact Ab
theorem Zah (l : List It.Entry) (hl : l.length ≤ 1000000) (hz : ∀ e ∈ l, Iz e.item) : AC prog 181 [CY l] [] (Bn (l.map D5)) [] := by
 refine As [246] [] func181 ?_;have hsz := Dl l;refine run ?_;refine Eg (fun m e S => e 0 = CY l ∧ ∃ (k : Nat) (acc : List By) (T : Ae), e 4 = .it .i64 (k : Int) ∧ e 3 = .sl (.own 0) (acc.map .st) ∧ S = .buf acc.length 9 1 :: T ∧ acc = (l.take k).map D5 ∧ k ≤ l.length ∧ m = l.length - k) l.length _ _ (Ay.reserve 0 3 (es := []) (by rfl) 9 1)
  ⟨Ad, 0, [], [], Ad, Ad, rfl, by simp, by omega, rfl⟩ ?_
 rintro m e S ⟨s0, k, acc, T, s4, s3, rfl, hacc, hk, rfl⟩
 have hT1 : ∀ y : SObj, (T ++ [y])[T.length]? = some y := fun y => by simp
 have hT2 : ∀ y z : SObj, (T ++ [y]).set T.length z = T ++ [z] := fun y z => by simp
 have hal : acc.length = k := by rw [hacc, List.length_map, List.length_take, Nat.min_eq_left hk]
 by_cases hlt : k < l.length
 ·have hg : l[k]? = some l[k] := List.getElem?_eq_getElem hlt
  have hzk := hz l[k] (List.getElem_mem hlt);have hst : acc ++ [D5 l[k]] = (l.take (k + 1)).map D5 := by rw [List.take_succ_eq_append_getElem hlt, List.map_append, ← hacc]; rfl
  generalize l[k] = x at *;have kx := Zaj x hzk;refine Aa (A7 s0 s4 s3 hg hsz hT1 hT2) ?_;refine cp kx ?_;refine Aa (A3 s0 s4 s3) ?_;exact AG (l.length - (k + 1)) (by omega) ⟨Ad, k + 1, acc ++ [D5 x], _, Ad, by rw [List.map_append]; exact Ad, by rw [List.length_append]; rfl, hst, by omega, rfl⟩
 ·obtain rfl : k = l.length := by omega
  rw [List.take_length] at hacc;subst hacc;refine Aa (A3 s0 s4 s3) ?_;exact AH
theorem ZR (l : List It.Entry) (hl : l.length ≤ 1000000) (hz : ∀ e ∈ l, Iz e.item) : AC prog 115 [CY l] [] (.st (B7 l)) [] := by
 refine As [181, 180] [] func115 ?_;have k1 := Zah l hl hz;have k2 := ZQ l.length (l.map D5) (by simp) (by simp; omega) (fun x hx => by rw [OH l x hx]; omega)
 refine run ?_;refine cp k1 ?_;refine run ?_;refine cp k2 ?_;refine run ?_;exact Ab
end Pe
end
section
namespace Pe
open Tryz
open Go Go.RowKit Co Sg Ac It Sl
set_option maxRecDepth 100000
set_option maxHeartbeats 4000000
theorem ZcR (h : Head) : AC prog 116 [Ff h] [] (.bo (CF h)) [] := by
 refine Ai [] [] func116 ?_;have hf : ¬ ((0 ≤ h.server ∧ h.server ≤ 19) ∧ (0 ≤ h.size ∧ h.size ≤ 1073741824) ∧ (0 ≤ h.time ∧ h.time ≤ 1099511627776) ∧ h.root.length = 32 ∧ (0 ≤ h.sig.e ∧ h.sig.e ≤ 2305843009213693949) ∧ (0 ≤ h.sig.s ∧ h.sig.s ≤ 2305843009213693949)) → CF h = false := fun hn => Bool.eq_false_iff.2 fun r => hn (GG.1 r)
 by_cases h1 : 0 ≤ h.server
 rotate_left
 ·rw [hf (by omega)]
  refine run ?_;exact Ab
 by_cases h2 : h.server < 20
 rotate_left
 ·rw [hf (by omega)]
  refine run ?_;exact Ab
 by_cases h3 : 0 ≤ h.size
 rotate_left
 ·rw [hf (by omega)]
  refine run ?_;exact Ab
 by_cases h4 : h.size ≤ 1073741824
 rotate_left
 ·rw [hf (by omega)]
  refine run ?_;exact Ab
 by_cases h5 : 0 ≤ h.time
 rotate_left
 ·rw [hf (by omega)]
  refine run ?_;exact Ab
 by_cases h6 : h.time ≤ 1099511627776
 rotate_left
 ·rw [hf (by omega)]
  refine run ?_;exact Ab
 by_cases h7 : h.root.length = 32
 rotate_left
 ·have h7' : ¬ (h.root.length : Int) = 32 := by omega
  rw [hf (by omega)]
  refine Aa h7' ?_;exact Ab
 have h7' : (h.root.length : Int) = 32 := by omega
 by_cases h8 : 0 ≤ h.sig.e
 rotate_left
 ·rw [hf (by omega)]
  refine Aa h7' ?_;exact Ab
 by_cases h9 : h.sig.e ≤ 2305843009213693949
 rotate_left
 ·rw [hf (by omega)]
  refine Aa h7' ?_;exact Ab
 by_cases h10 : 0 ≤ h.sig.s
 rotate_left
 ·rw [hf (by omega)]
  refine Aa h7' ?_;exact Ab
 by_cases h11 : h.sig.s ≤ 2305843009213693949
 rotate_left
 ·rw [hf (by omega)]
  refine Aa h7' ?_;exact Ab
 rw [GG.2 (by omega)]
 refine Aa h7' ?_;exact Ab
theorem Zdh (h : Head) (hr : CF h = true) : AC prog 118 [Ff h] [] (.st (Dn h)) [] := by
 refine Ai [183, 110] [] func118 ?_;have hh := GG.1 hr;have n1 := Ak h.server (by omega)
 have n2 := Ak h.size (by omega)
 have n3 := Ak h.time (by omega)
 have t1 := AR (s := h.root) (by omega)
 have tw : (text IT).length = 5 := rfl;unfold Dn;refine run ?_;refine cp (Cg IT (by simp)) ?_
 refine run ?_;refine cp (Bi h.server (by omega)) ?_
 refine run ?_;refine cp (Bi h.size (by omega)) ?_
 refine run ?_;refine cp (Cg h.root (by omega)) ?_
 refine run ?_;refine cp (Bi h.time (by omega)) ?_
 refine run ?_;exact Ab
end Pe
end
section
namespace Pe
open Tryz
open Go Go.RowKit Co Sg Ac It Sl
set_option maxRecDepth 100000
set_option maxHeartbeats 4000000
theorem ZcI (l : List It.Entry) (hl : l.length ≤ 140737488355328) : AC prog 46 [CY l] [] (.bo (times l)) [] := by
 refine As [] [] func46 ?_;have hsz := Dl l;refine run ?_;refine Bp (fun m e S => S = [] ∧ e 0 = CY l ∧ ∃ k : Nat, e 3 = .it .i64 ((k + 1 : Nat) : Int) ∧ (∀ j (h : j + 1 < l.length), j < k → l[j].time ≤ l[j + 1].time) ∧ m = l.length - k) l.length
  ⟨rfl, Ad, 0, Ad, fun j _ h => absurd h (Nat.not_lt_zero _), rfl⟩ ?_
 rintro m e S ⟨rfl, s0, k, s3, hall, rfl⟩
 by_cases hlt : k + 1 < l.length
 rotate_left
 ·rw [HW.2 fun j h => hall j h (by omega)]
  have hlt' : ¬ ((k + 1 : Nat) : Int) < (l.length : Int) := by omega
  refine Aa (A3 s0 s3 hlt') ?_;exact Ab
 have hlt' : ((k + 1 : Nat) : Int) < (l.length : Int) := by omega
 have hg1 : l[k + 1]? = some l[k + 1] := List.getElem?_eq_getElem hlt
 have hg0 : l[k]? = some l[k] := List.getElem?_eq_getElem (by omega)
 have hc : ((k + 1 : Nat) : Int) - 1 = (k : Int) := by omega
 have hbad := Qz hlt;have hgood : l[k].time ≤ l[k + 1].time → ∀ j (h : j + 1 < l.length), j < k + 1 → l[j].time ≤ l[j + 1].time := fun h j hj hjk => by
  by_cases e : j = k
  ·subst e; exact h
  ·exact hall j hj (by omega)
 generalize l[k + 1] = x at *;generalize l[k] = y at *;by_cases ht : x.time < y.time
 ·rw [hbad ht]
  refine Aa (A7 s0 s3 hlt' hg1 hg0 hc hsz) ?_;exact Ab
 ·refine Aa (A7 s0 s3 hlt' hg1 hg0 hc hsz) ?_
  exact AG (l.length - (k + 1)) (by omega) ⟨rfl, Ad, k + 1, Ad, hgood (by omega), rfl⟩
theorem Zda (k : Key) (server : Int) (l : List It.Entry) (time : Int) (hk : -9223372036854775808 ≤ k.secret ∧ k.secret ≤ 9223372036854775807) (hl : l.length ≤ 1000000) (hz : ∀ e ∈ l, Iz e.item) :
  AC prog 59 [Cr k, .it .i64 server, CY l, .it .i64 time] [] (Ff (Di k server l time)) [] := by
 refine As [115, 116, 40, 118, 117] [] func59 ?_;have k1 := Ja k hk;have k2 := ZR l hl hz;have k3 := ZcR ⟨server, l.length, B7 l, time, BX⟩;unfold Di;cases hr : k.right with
 | false =>
  rw [if_neg (by simp)]
  rw [hr] at k1;cases hh : CF ⟨server, l.length, B7 l, time, BX⟩ with
  | false =>
   rw [hh] at k3;refine run ?_;refine cp k2 ?_;refine run ?_;refine cp k3 ?_;refine run ?_;refine cp k1 ?_;refine run ?_;exact Ab
  | true =>
   rw [hh] at k3;refine run ?_;refine cp k2 ?_;refine run ?_;refine cp k3 ?_;refine run ?_;refine cp k1 ?_;refine run ?_;exact Ab
 | true =>
  rw [if_pos rfl];rw [hr] at k1;cases hh : CF ⟨server, l.length, B7 l, time, BX⟩ with
  | false =>
   rw [hh] at k3;simp only [hh, Bool.false_eq_true, if_false];refine run ?_;refine cp k2 ?_;refine run ?_;refine cp k3 ?_;refine run ?_;refine cp k1 ?_;refine run ?_;exact Ab
  | true =>
   rw [hh] at k3;simp only [hh, if_true];have k4 := Zdh ⟨server, l.length, B7 l, time, BX⟩ hh;have hc := Pu hh;have k5 := ZL k (Dn ⟨server, l.length, B7 l, time, BX⟩) (by omega) hk
   generalize Dn ⟨server, l.length, B7 l, time, BX⟩ = c at *;generalize Df k c = sg at *;refine run ?_;refine cp k2 ?_;refine run ?_;refine cp k3 ?_;refine run ?_;refine cp k1 ?_;refine run ?_;refine cp k4 ?_;refine run ?_;refine cp k5 ?_;refine run ?_;exact Ab
end Pe
end
section
namespace Ac
open Tryz
open Go Co Sg
def DK : Nat → R → List Wrap × R
 | 0, x => ([], x)
 | n + 1, x => if x.rest = [] then ([], x) else ((B8 x).1 :: (DK n (B8 x).2).1, (DK n (B8 x).2).2)
def FC (x : R) : Act × R :=
 let author := x.text
 let seq := Ap author.2
 let prev := seq.2.text
 let kind := Ap prev.2
 let time := Ap kind.2
 let object := time.2.text
 let target := object.2.text
 let scope := Ap target.2
 let group := scope.2.text
 let to := group.2.list
 let text := to.2.text
 let body := Ce text.2
 let epoch := Ap body.2
 let wraps := DK epoch.2.num.1 epoch.2.num.2
 let n := Ap wraps.2
 let m := Ap n.2
 let e := Ap m.2
 let s := Ap e.2
 (⟨author.1, seq.1, prev.1, kind.1, time.1, object.1, target.1, scope.1, group.1, to.1, text.1, body.1, epoch.1, wraps.1, n.1, m.1, ⟨e.1, s.1⟩⟩, s.2)
theorem R4 : ∀ (l : List Wrap) (rest : By), rest ≠ [] → (∀ w ∈ l, BH w = true) → DK l.length ⟨(l.map Bz).flatten ++ rest, false⟩ = (l, ⟨rest, false⟩)
 | [], rest, _, _ => rfl
 | w :: l, rest, hr, h => by
  rw [List.length_cons, List.map_cons, List.flatten_cons, List.append_assoc];unfold DK;rw [if_neg (by simp [hr]), R5 w _ (h w (by simp))]
  simp only
  rw [R4 l rest hr fun x hx => h x (by simp [hx])]
theorem Zbm {a : Act} (h : Sm a) (rest : By) : FC ⟨FZ a rest, false⟩ = (a, ⟨rest, false⟩) := by
 have hs := h.sig;simp only [AT, Bool.and_eq_true, AZ] at hs;have h1 := h.author; have h2 := h.seq; have h3 := h.prev; have h4 := h.kind; have h5 := h.time; have h6 := h.object; have h7 := h.target; have h8 := h.scope; have h9 := h.group;have h10 := h.to; have h11 := h.text; have h12 := h.body; have h13 := h.epoch; have h14 := h.wraps; have h15 := h.n; have h16 := h.m;unfold FC FZ;simp only
 rw [Cd _ _ (by omega)]; simp only
 rw [Bf _ _ (by omega) (by omega)]; simp only
 rw [Cd _ _ (by omega)]; simp only
 rw [Bf _ _ (by omega) (by omega)]; simp only
 rw [Bf _ _ (by omega) (by omega)]; simp only
 rw [Cd _ _ (by omega)]; simp only
 rw [Cd _ _ (by omega)]; simp only
 rw [Bf _ _ (by omega) (by omega)]; simp only
 rw [Cd _ _ (by omega)]; simp only
 rw [OA _ _ (by omega) (fun s hs => by have := h10.2 s hs; omega)]; simp only
 rw [Cd _ _ (by omega)]; simp only
 rw [Oc _ _ (by omega)]; simp only
 rw [Bf _ _ (by omega) (by omega)]; simp only
 rw [Ie _ _ _ (by omega)]; simp only
 rw [R4 _ _ (fun e => absurd (List.append_eq_nil_iff.1 e).1 (Mr h15.1)) h14.2]; simp only
 rw [Bf _ _ (by omega) (by omega)]; simp only
 rw [Bf _ _ (by omega) (by omega)]; simp only
 rw [Bf _ _ (by omega) (by omega)]; simp only
 rw [Bf _ _ (by omega) (by omega)]
theorem ZaR (s : By) : (if (FC (R.text ⟨s, false⟩).2).2.done = true ∧ (R.text ⟨s, false⟩).1 = Cl ∧ bytes (FC (R.text ⟨s, false⟩).2).1 = s then ((FC (R.text ⟨s, false⟩).2).1, true) else (BU, false)) = read s := by
 by_cases hc : (FC (R.text ⟨s, false⟩).2).2.done = true ∧ (R.text ⟨s, false⟩).1 = Cl ∧ bytes (FC (R.text ⟨s, false⟩).2).1 = s
 ·rw [if_pos hc]
  generalize hA : (FC (R.text ⟨s, false⟩).2).1 = A at *;cases hr : right A with
  | false =>
   have := (bytes_wrong hr).1
   rw [this] at hc;have h3 := hc.2.2;subst h3;exact absurd hc.2.1 (by decide)
  | true =>
   have := Ka hr;rw [hc.2.2] at this;exact this.symm
 ·rw [if_neg hc]
  cases h : (read s).2 with
  | false =>
   have := read_wrong h;rw [← this, ← h]
  | true =>
   exfalso;apply hc
   obtain ⟨h1, h2⟩ := read_right h;generalize (read s).1 = a at *;have hb := bytes_right h1;have hs : s = text Cl ++ FZ a [] := by rw [← hb, h2]
   have ht : R.text ⟨s, false⟩ = (Cl, ⟨FZ a [], false⟩) := by rw [hs]; exact QH _
   rw [ht];simp only
   rw [Zbm (Et h1)];exact ⟨rfl, trivial, h2⟩
end Ac
end
end Go.Proofs.YtldohjjoicmfpaaGreatDoor
