/- A part. -/
import Derived.Test.YtldohjjoicmfpaaGreatDoorKr15
set_option linter.unusedSectionVars false
set_option linter.unusedVariables false
set_option linter.unusedSimpArgs false
namespace Go.Proofs.YtldohjjoicmfpaaGreatDoor
section
namespace Pe
open Tryz
open Go Go.RowKit Co Sg Ac It
set_option maxRecDepth 100000
set_option maxHeartbeats 4000000
theorem Tv : It.right AI = false := by decide +kernel
abbrev U3 (d : It.Decision) : List AV := [.it .i64 d.server, .it .i64 d.number, .it .i64 d.kind, .st d.actor, .st d.object, .st d.text, Bn d.to, .it .i64 d.n, .it .i64 d.frm, .it .i64 d.til, .it .i64 d.sig.e, .it .i64 d.sig.s]
structure InI (i : It.Item) : Prop where
 act : In i.act
 iz : Iz i
 ci : ∀ x ∈ [i.claim.base, i.claim.gen, i.claim.home, i.claim.pub, i.claim.time], -9223372036854775808 ≤ x ∧ x ≤ 9223372036854775807
 bi : ∀ x ∈ [i.ballot.server, i.ballot.gen, i.ballot.time], -9223372036854775808 ≤ x ∧ x ≤ 9223372036854775807
 di : ∀ x ∈ [i.decision.server, i.decision.number, i.decision.kind, i.decision.n, i.decision.frm, i.decision.til], -9223372036854775808 ≤ x ∧ x ≤ 9223372036854775807
 si : ∀ x ∈ [i.claim.sig.e, i.claim.sig.s, i.ballot.sig.e, i.ballot.sig.s, i.decision.sig.e, i.decision.sig.s], -9223372036854775808 ≤ x ∧ x ≤ 9223372036854775807
theorem NQ {n us} (h : Bm prog 140737488351232 (n + 2) 50 us) : ∃ s : Sig, us = [.it .i64 s.e, .it .i64 s.s] ∧ (-9223372036854775808 ≤ s.e ∧ s.e ≤ 9223372036854775807) ∧ (-9223372036854775808 ≤ s.s ∧ s.s ≤ 9223372036854775807) := by
 have h := E4 underlying50 h;obtain ⟨a0, b0, rfl, h0, h⟩ := h;obtain ⟨a1, b1, rfl, h1, rfl⟩ := h;obtain ⟨i0, rfl, w0⟩ := Bt underlying3 h0;obtain ⟨i1, rfl, w1⟩ := Bt underlying3 h1;exact ⟨⟨i0, i1⟩, rfl, w0, w1⟩
theorem Zi {n us} (h : Bm prog 140737488351232 (n + 3) 54 us) : ∃ c : It.Claim, us = (KP c).cells ∧ c.actor.length ≤ 140737488355328 ∧ (∀ x ∈ [c.base, c.gen, c.home, c.pub, c.time], -9223372036854775808 ≤ x ∧ x ≤ 9223372036854775807) ∧ (∀ x ∈ [c.sig.e, c.sig.s], -9223372036854775808 ≤ x ∧ x ≤ 9223372036854775807) := by
 have h := E4 underlying54 h;obtain ⟨a0, b0, rfl, h0, h⟩ := h;obtain ⟨a1, b1, rfl, h1, h⟩ := h;obtain ⟨a2, b2, rfl, h2, h⟩ := h;obtain ⟨a3, b3, rfl, h3, h⟩ := h;obtain ⟨a4, b4, rfl, h4, h⟩ := h;obtain ⟨a5, b5, rfl, h5, h⟩ := h;obtain ⟨a6, b6, rfl, h6, h⟩ := h;obtain ⟨a7, b7, rfl, h7, rfl⟩ := h;obtain ⟨actor, rfl, w0⟩ := Dg underlying9 h0;obtain ⟨base, rfl, w1⟩ := Bt underlying3 h1;obtain ⟨prev, rfl, w2⟩ := Dg underlying9 h2;obtain ⟨gen, rfl, w3⟩ := Bt underlying3 h3;obtain ⟨home, rfl, w4⟩ := Bt underlying3 h4;obtain ⟨pub, rfl, w5⟩ := Bt underlying3 h5;obtain ⟨time, rfl, w6⟩ := Bt underlying3 h6;obtain ⟨sg, rfl, w7, w7q⟩ := NQ h7;refine ⟨⟨actor, base, prev, gen, home, pub, time, sg⟩, rfl, Nat.le_trans w0 (by decide), by simp only [List.forall_mem_cons, List.not_mem_nil, false_implies, implies_true, and_true]; omega, by simp only [List.forall_mem_cons, List.not_mem_nil, false_implies, implies_true, and_true]; omega⟩
theorem Zj {n us} (h : Bm prog 140737488351232 (n + 3) 56 us) : ∃ c : It.Ballot, us = (KW c).cells ∧ c.actor.length ≤ 140737488355328 ∧ (∀ x ∈ [c.server, c.gen, c.time], -9223372036854775808 ≤ x ∧ x ≤ 9223372036854775807) ∧ (∀ x ∈ [c.sig.e, c.sig.s], -9223372036854775808 ≤ x ∧ x ≤ 9223372036854775807) := by
 have h := E4 underlying56 h;obtain ⟨a0, b0, rfl, h0, h⟩ := h;obtain ⟨a1, b1, rfl, h1, h⟩ := h;obtain ⟨a2, b2, rfl, h2, h⟩ := h;obtain ⟨a3, b3, rfl, h3, h⟩ := h;obtain ⟨a4, b4, rfl, h4, h⟩ := h;obtain ⟨a5, b5, rfl, h5, rfl⟩ := h;obtain ⟨server, rfl, w0⟩ := Bt underlying3 h0;obtain ⟨actor, rfl, w1⟩ := Dg underlying9 h1;obtain ⟨gen, rfl, w2⟩ := Bt underlying3 h2;obtain ⟨claim, rfl, w3⟩ := Dg underlying9 h3;obtain ⟨time, rfl, w4⟩ := Bt underlying3 h4;obtain ⟨sg, rfl, w5, w5q⟩ := NQ h5;refine ⟨⟨server, actor, gen, claim, time, sg⟩, rfl, Nat.le_trans w1 (by decide), by simp only [List.forall_mem_cons, List.not_mem_nil, false_implies, implies_true, and_true]; omega, by simp only [List.forall_mem_cons, List.not_mem_nil, false_implies, implies_true, and_true]; omega⟩
theorem Zh {n us} (h : Bm prog 140737488351232 (n + 3) 58 us) : ∃ c : It.Decision, us = (FP c).cells ∧ Dz c ∧ (∀ x ∈ [c.server, c.number, c.kind, c.n, c.frm, c.til], -9223372036854775808 ≤ x ∧ x ≤ 9223372036854775807) ∧ (∀ x ∈ [c.sig.e, c.sig.s], -9223372036854775808 ≤ x ∧ x ≤ 9223372036854775807) := by
 have h := E4 underlying58 h;obtain ⟨a0, b0, rfl, h0, h⟩ := h;obtain ⟨a1, b1, rfl, h1, h⟩ := h;obtain ⟨a2, b2, rfl, h2, h⟩ := h;obtain ⟨a3, b3, rfl, h3, h⟩ := h;obtain ⟨a4, b4, rfl, h4, h⟩ := h;obtain ⟨a5, b5, rfl, h5, h⟩ := h;obtain ⟨a6, b6, rfl, h6, h⟩ := h;obtain ⟨a7, b7, rfl, h7, h⟩ := h;obtain ⟨a8, b8, rfl, h8, h⟩ := h;obtain ⟨a9, b9, rfl, h9, h⟩ := h;obtain ⟨a10, b10, rfl, h10, rfl⟩ := h;obtain ⟨server, rfl, w0⟩ := Bt underlying3 h0;obtain ⟨number, rfl, w1⟩ := Bt underlying3 h1;obtain ⟨kind, rfl, w2⟩ := Bt underlying3 h2;obtain ⟨actor, rfl, w3⟩ := Dg underlying9 h3;obtain ⟨object, rfl, w4⟩ := Dg underlying9 h4;obtain ⟨txt, rfl, w5⟩ := Dg underlying9 h5;obtain ⟨to, rfl, w6, w6q⟩ := Q7 h6;obtain ⟨n1, rfl, w7⟩ := Bt underlying3 h7;obtain ⟨frm, rfl, w8⟩ := Bt underlying3 h8;obtain ⟨til, rfl, w9⟩ := Bt underlying3 h9;obtain ⟨sg, rfl, w10, w10q⟩ := NQ h10;refine ⟨⟨server, number, kind, actor, object, txt, to, n1, frm, til, sg⟩, rfl, ⟨Nat.le_trans w3 (by decide), Nat.le_trans w6 (by decide), fun s hs => Nat.le_trans (w6q s hs) (by decide)⟩, by simp only [List.forall_mem_cons, List.not_mem_nil, false_implies, implies_true, and_true]; omega, by simp only [List.forall_mem_cons, List.not_mem_nil, false_implies, implies_true, and_true]; omega⟩
theorem Ze {n us} (h : Bm prog 140737488351232 (n + 6) 60 us) : ∃ i : It.Item, us = (Bc i).cells ∧ InI i := by
 have h := E4 underlying60 h;obtain ⟨a0, b0, rfl, h0, h⟩ := h;obtain ⟨a1, b1, rfl, h1, h⟩ := h;obtain ⟨a2, b2, rfl, h2, h⟩ := h;obtain ⟨a3, b3, rfl, h3, h⟩ := h;obtain ⟨a4, b4, rfl, h4, rfl⟩ := h;obtain ⟨kind, rfl, w0⟩ := Bt underlying3 h0;obtain ⟨a, rfl, w1⟩ := Zk h1;obtain ⟨c, rfl, w2, w2c, w2s⟩ := Zi h2;obtain ⟨b, rfl, w3, w3c, w3s⟩ := Zj h3;obtain ⟨d, rfl, w4, w4c, w4s⟩ := Zh h4;refine ⟨⟨kind, a, c, b, d⟩, rfl, w1, ⟨w1.sz, w2, w3, w4⟩, w2c, w3c, w4c, ?_⟩
 simp only [List.forall_mem_cons, List.not_mem_nil, false_implies, implies_true, and_true] at w2s w3s w4s ⊢;exact ⟨w2s.1, w2s.2, w3s.1, w3s.2, w4s.1, w4s.2⟩
theorem HY {s : By} {n : Nat} (h : s.length ≤ n) (hn : n ≤ 1000000) : (text s).length ≤ n + 9 := by
 have := Ef (n := s.length) (by omega)
 unfold text;rw [List.length_append];omega
theorem Zen {i : It.Item} (h : It.right i = true) (h0 : i.kind ≠ 0) : (EU i).length ≤ 20000 := by
 unfold EU;rcases right_kind h with e | e | e | e
 ·exact absurd e h0
 ·rw [if_pos e]
  have s := MW ((right_claim e).1 h).1;have h1 := s.actor; have h2 := s.base; have h3 := s.prev; have h4 := s.gen; have h5 := s.home; have h6 := s.pub; have h7 := s.time;have l1 := HY (n := 16) (s := i.claim.actor) (by omega) (by omega)
  have l2 := HY (n := 32) (s := i.claim.prev) (by omega) (by omega)
  have n1 := Ak i.claim.base (by omega)
  have n2 := Ak i.claim.gen (by omega)
  have n3 := Ak i.claim.home (by omega)
  have n4 := Ak i.claim.pub (by omega)
  have n5 := Ak i.claim.time (by omega)
  unfold Da;simp only [List.length_append];omega
 ·rw [if_neg (by omega), if_pos e]
  have s := M7 ((right_ballot e).1 h).1;have h1 := s.actor; have h2 := s.server; have h3 := s.claim; have h4 := s.gen; have h5 := s.time;have l1 := HY (n := 16) (s := i.ballot.actor) (by omega) (by omega)
  have l2 := HY (n := 32) (s := i.ballot.claim) (by omega) (by omega)
  have n1 := Ak i.ballot.server (by omega)
  have n2 := Ak i.ballot.gen (by omega)
  have n3 := Ak i.ballot.time (by omega)
  unfold Dc;simp only [List.length_append];omega
 ·rw [if_neg (by omega), if_neg (by omega)]
  have s := MS ((right_decision e).1 h).1;have h1 := s.actor; have h2 := s.server; have h3 := s.number; have h4 := s.kind; have h5 := s.object; have h6 := s.text; have h7 := s.to; have h8 := s.n; have h9 := s.frm; have h10 := s.til;have l1 := HY (n := 16) (s := i.decision.actor) (by omega) (by omega)
  have l2 := HY (n := 32) (s := i.decision.object) (by omega) (by omega)
  have l3 := HY (n := 4096) (s := i.decision.text) (by omega) (by omega)
  have l4 := Td ⟨h7.1, fun s hs => Nat.le_of_eq (h7.2 s hs)⟩
  have n1 := Ak i.decision.server (by omega)
  have n2 := Ak i.decision.number (by omega)
  have n3 := Ak i.decision.kind (by omega)
  have n4 := Ak i.decision.n (by omega)
  have n5 := Ak i.decision.frm (by omega)
  have n6 := Ak i.decision.til (by omega)
  unfold C8;simp only [List.length_append];omega
theorem bytesIt_len6 (i : It.Item) : (It.bytes i).length ≤ 200000 := by
 cases hr : It.right i with
 | false => rw [It.bytes_wrong hr]; decide
 | true =>
  have hk := right_kind hr;have n0 := Ak i.kind (by omega)
  rw [bytes_right hr];unfold D9;rw [List.length_append];by_cases h0 : i.kind = 0
  ·rw [if_pos h0]
   have := M1 (a := i.act);omega
  ·rw [if_neg h0]
   have hs := GD hr h0;simp only [AT, Bool.and_eq_true, AZ] at hs;have n1 := Ak (BW i).e (by omega)
   have n2 := Ak (BW i).s (by omega)
   have hc := Zen hr h0;simp only [List.length_append];omega
end Pe
end
section
namespace Mk
open Tryz
open Go Sm
abbrev By := List UInt8
def sp (n : Nat) : Nat := 2 ^ Nat.log2 (n - 1)
theorem YV {n j : Nat} (h1 : 2 ^ j < n) (h2 : n ≤ 2 ^ (j + 1)) : sp n = 2 ^ j := by
 unfold sp;congr 1
 exact (Nat.log2_eq_iff (by omega)).2 ⟨by omega, by omega⟩
theorem IY {n : Nat} (h : 2 ≤ n) : sp n < n := by
 have := (Nat.log2_eq_iff (n := n - 1) (k := Nat.log2 (n - 1)) (by omega)).1 rfl
 unfold sp; omega
theorem JV (n : Nat) : 0 < sp n := Nat.pow_pos (by omega)
def pre (l r : By) : By := 1 :: (l ++ r)
def Ki (l r : By) : By := sha (pre l r)
def leaf (s : By) : By := sha (0 :: s)
def Fy : Nat → List By → By
 | 0, l => l.headD []
 | f + 1, l => if l.length ≤ 1 then l.headD [] else Ki (Fy f (l.take (sp l.length))) (Fy f (l.drop (sp l.length)))
def rt (l : List By) : By := Fy l.length l
def root (l : List By) : By := if l = [] then sha [] else rt l
theorem J4 : ∀ (f f' : Nat) (l : List By), l.length ≤ f + 1 → l.length ≤ f' + 1 → Fy f l = Fy f' l
 | 0, 0, l, h, h' => rfl
 | 0, f' + 1, l, h, h' => by simp only [Fy]; rw [if_pos (by omega)]
 | f + 1, 0, l, h, h' => by simp only [Fy]; rw [if_pos (by omega)]
 | f + 1, f' + 1, l, h, h' => by
  simp only [Fy];by_cases h1 : l.length ≤ 1
  ·rw [if_pos h1, if_pos h1]
  ·rw [if_neg h1, if_neg h1]
   have := IY (n := l.length) (by omega)
   have := JV l.length;rw [J4 f f' (l.take _) (by simp; omega) (by simp; omega), J4 f f' (l.drop _) (by simp; omega) (by simp; omega)]
theorem NX {l : List By} (h : l.length ≤ 1) : rt l = l.headD [] := by
 unfold rt;cases hl : l.length with
 | zero => rfl
 | succ n => simp only [Fy]; rw [if_pos h]
theorem Ma {l : List By} (h : 2 ≤ l.length) : rt l = Ki (rt (l.take (sp l.length))) (rt (l.drop (sp l.length))) := by
 have := IY h;have := JV l.length;unfold rt;rw [J4 l.length (l.length - 1 + 1) l (by omega) (by omega)]
 simp only [Fy];rw [if_neg (by omega), J4 (l.length - 1) (l.take (sp l.length)).length _ (by simp; omega) (by omega), J4 (l.length - 1) (l.drop (sp l.length)).length _ (by simp; omega) (by omega)]
def Mj : Nat → List By → Nat → List By
 | 0, _, _ => []
 | f + 1, l, i => if l.length ≤ 1 then [] else
  if i < sp l.length then Mj f (l.take (sp l.length)) i ++ [rt (l.drop (sp l.length))] else Mj f (l.drop (sp l.length)) (i - sp l.length) ++ [rt (l.take (sp l.length))]
def Sr (l : List By) (i : Nat) : List By := Mj l.length l i
theorem ZgB {l : List By} (h : l.length ≤ 1) (i : Nat) : Sr l i = [] := by
 unfold Sr;cases hl : l.length with
 | zero => rfl
 | succ n => simp only [Mj]; rw [if_pos h]
end Mk
end
section
namespace Mk
open Tryz
open Go Sm
abbrev Dig (l : List By) : Prop := ∀ x ∈ l, x.length = 32
theorem sha_len' (l : By) : (sha l).length = 32 := by simp [sha, S8.list, EW]
theorem rt_dig {l : List By} (h0 : 0 < l.length) (h : Dig l) : (rt l).length = 32 := by
 by_cases h2 : 2 ≤ l.length
 ·rw [Ma h2]; exact sha_len' _
 ·obtain ⟨a, rfl⟩ := List.length_eq_one_iff.1 (by omega : l.length = 1)
  rw [NX (by simp)]; exact h a (by simp)
end Mk
end
section
namespace Sl
open Tryz
open Go Co Sg Ac It
structure Head where
 server : Int
 size : Int
 root : By
 time : Int
 sig : Sig
 deriving DecidableEq
def TH : Head := ⟨0, 0, [], 0, BX⟩
def CF (h : Head) : Bool := wi h.server 0 19 && wi h.size 0 1073741824 && wi h.time 0 1099511627776 && Bd h.root && AT h.sig
abbrev IT : By := [104, 101, 97, 100]
def Dn (h : Head) : By := text IT ++ Ah h.server ++ Ah h.size ++ text h.root ++ Ah h.time
def JM (p : Int) (h : Head) : Bool := CF h && IU p (Dn h) h.sig
theorem Md {h : Head} : CF h = true ↔ (0 ≤ h.server ∧ h.server ≤ 19) ∧ (0 ≤ h.size ∧ h.size ≤ 1073741824) ∧ (0 ≤ h.time ∧ h.time ≤ 1099511627776) ∧ h.root.length = 32 ∧ AT h.sig = true := by
 simp only [CF, Bool.and_eq_true, AZ, Bd, decide_eq_true_eq, and_assoc]
def D5 (e : It.Entry) : By := Mk.leaf (AB e)
def B7 (l : List It.Entry) : By := Mk.root (l.map D5)
theorem Zcg (e : It.Entry) : (D5 e).length = 32 := Mk.sha_len' _
theorem OH (l : List It.Entry) : Mk.Dig (l.map D5) := fun x hx => by
 obtain ⟨e, _, rfl⟩ := List.mem_map.1 hx;exact Zcg e
theorem Z4 {l : List By} (h : Mk.Dig l) : (Mk.root l).length = 32 := by
 unfold Mk.root;split
 ·exact Mk.sha_len' _
 ·rename_i h0
  exact Mk.rt_dig (List.length_pos_iff.2 h0) h
theorem Z6 (l : List It.Entry) : (B7 l).length = 32 := Z4 (OH l)
def Di (k : Key) (server : Int) (l : List It.Entry) (time : Int) : Head :=
 if k.right then
  let h : Head := ⟨server, l.length, B7 l, time, BX⟩
  if CF h then { h with sig := Df k (Dn h) } else TH
 else TH
theorem Y5 (k : Key) (m : By) : AT (Df k m) = true := by
 obtain ⟨h1, h2, h3, h4⟩ := Y3 k m;simp only [AT, wi, Bool.and_eq_true, decide_eq_true_eq];omega
theorem Zam {h : Head} (hr : CF h = true) {s : Sig} (hs : AT s = true) : CF { h with sig := s } = true := by
 obtain ⟨h1, h2, h3, h4, _⟩ := Md.1 hr;exact Md.2 ⟨h1, h2, h3, h4, hs⟩
theorem SZ {k : Key} {server : Int} {l : List It.Entry} {time : Int} (hk : k.right = true) (hs : 0 ≤ server ∧ server ≤ 19) (hl : l.length ≤ 1073741824) (ht : 0 ≤ time ∧ time ≤ 1099511627776) :
  Di k server l time = ⟨server, l.length, B7 l, time, Df k (Dn ⟨server, l.length, B7 l, time, BX⟩)⟩ ∧ CF (Di k server l time) = true ∧ JM k.pub (Di k server l time) = true := by
 have h0 : CF ⟨server, l.length, B7 l, time, BX⟩ = true := Md.2 ⟨hs, by simp only; omega, ht, Z6 l, rfl⟩
 have e : Di k server l time = ⟨server, l.length, B7 l, time, Df k (Dn ⟨server, l.length, B7 l, time, BX⟩)⟩ := by
  unfold Di;rw [if_pos hk];simp only
  rw [if_pos h0]
 rw [e];have h1 := Zam h0 (Y5 k (Dn ⟨server, l.length, B7 l, time, BX⟩));refine ⟨rfl, h1, ?_⟩
 unfold JM;rw [show CF ⟨server, l.length, B7 l, time, Df k (Dn ⟨server, l.length, B7 l, time, BX⟩)⟩ = true from h1]
 exact Yk hk _
def times : List It.Entry → Bool
 | a :: b :: r => decide (a.time ≤ b.time) && times (b :: r)
 | _ => true
theorem HW : ∀ {l : List It.Entry}, times l = true ↔ ∀ j (h : j + 1 < l.length), l[j].time ≤ l[j + 1].time
 | [] => by simp [times]
 | [a] => by simp [times]
 | a :: b :: r => by
  rw [times, Bool.and_eq_true, decide_eq_true_eq, HW (l := b :: r)];constructor
  ·rintro ⟨h1, h2⟩ j h
   cases j with
   | zero => exact h1
   | succ j => exact h2 j (by simpa using h)
  ·intro h
   exact ⟨h 0 (by simp), fun j hj => h (j + 1) (by simpa using hj)⟩
theorem YA {l : List It.Entry} (h : times l = true) (n : Nat) : times (l.take n) = true := by
 rw [HW] at h ⊢;intro j hj;rw [List.length_take] at hj;rw [List.getElem_take, List.getElem_take];exact h j (by omega)
structure Mirror where
 server : Int
 entries : List It.Entry
 heads : List Head
 deriving DecidableEq
structure Batch where
 head : Head
 frm : Int
 entries : List It.Entry
 deriving DecidableEq
def sound (ps : List Int) (e : It.Entry) : Bool := decide (AB e ≠ []) && signed ps e.item
def TG (p : Int) (m : Mirror) : Int → List Head → Bool
 | last, [] => decide (last = m.entries.length)
 | last, h :: hs => decide (h.server = m.server) && JM p h && decide (last < h.size) && decide (h.size ≤ m.entries.length) && decide (h.root = B7 (m.entries.take h.size.toNat)) && TG p m h.size hs
def Zap (ps : List Int) (m : Mirror) : Bool :=
 decide (0 ≤ m.server) && decide (m.server < ps.length) && times m.entries && m.entries.all (sound ps) && TG (ps.getD m.server.toNat 0) m 0 m.heads
structure Honest (ps : List Int) (l : List It.Entry) : Prop where
 times : times l = true
 sound : l.all (sound ps) = true
structure Good (ps : List Int) (server : Int) (k : Key) (l : List It.Entry) : Prop where
 s0 : 0 ≤ server
 s1 : server < ps.length
 s2 : ps.length ≤ 20
 key : ps.getD server.toNat 0 = k.pub
 right : k.right = true
 honest : Honest ps l
 len : l.length ≤ 80
structure Mir (ps : List Int) (server : Int) (l : List It.Entry) (m : Mirror) (n : Nat) : Prop where
 server : m.server = server
 le : n ≤ l.length
 entries : m.entries = l.take n
 right : Zap ps m = true
end Sl
end
section
namespace Pe
open Tryz
open Go Sm Mk
set_option maxRecDepth 100000
abbrev Q1 (l : List By) : AV := .sl .full (l.map .st)
theorem Zcf (l : List UInt8) (h : l.length ≤ 1000000) : AC prog 239 [.st l] [] (.st (leaf l)) [] := by
 refine Ai [66] [] func239 ?_;refine run ?_;refine DF (JX (0 :: l) (by simp; omega)) (by rfl) (by rfl) (by rfl) ?_
 refine run ?_;exact Ct (by rfl) (by rfl) (by rfl)
theorem ZbV (l r : List UInt8) (h : l.length ≤ 1000000) (h' : r.length ≤ 1000000) : AC prog 242 [.st l, .st r] [] (.st (Ki l r)) [] := by
 refine Ai [66] [] func242 ?_;refine run ?_;refine DF (JX (1 :: (l ++ r)) (by simp; omega)) (by rfl) (by rfl) (by rfl) ?_
 refine run ?_;exact Ct (by rfl) (by rfl) (by rfl)
theorem YU {n : Nat} (h : 2 ≤ n) : 2 ^ (Be (n - 1) - 1) = sp n := by
 unfold Be sp;rw [if_neg (by omega)]
 rfl
theorem YT (n : Nat) (h : 2 ≤ n) (h' : n < 9223372036854775808) : AC prog 269 [.it .i64 n] [] (.it .i64 (sp n)) [] := by
 refine Ai [120] [] func269 ?_;have hu : IntKind.u64.wrap ((n : Int) - 1) = ((n - 1 : Nat) : Int) := by
  rw [show (n : Int) - 1 = ((n - 1 : Nat) : Int) from by omega, Nt]
  simp; omega
 refine Aa hu ?_;refine DF (OG (n - 1) (by omega)) (by rfl) (by rfl) (by rfl) ?_
 have hb := Gl (n - 1);have hs : FS .i64 1 ((Be (n - 1) : Int) - 1) = some (.it .i64 (sp n : Int)) := by
  have h1 := IY h;have h2 := YU h;have h3 : 0 < Be (n - 1) := by unfold Be; rw [if_neg (by omega)]; omega
  have h4 : Be (n - 1) ≤ 63 := by
   unfold Be;rw [if_neg (by omega)]
   have := (Nat.log2_lt (n := n - 1) (k := 63) (by omega)).2 (by omega)
   omega
  unfold FS;rw [if_pos (by omega)]
  congr 2
  rw [show ((Be (n - 1) : Int) - 1).toNat = Be (n - 1) - 1 from by omega, show min (Be (n - 1) - 1) IntKind.i64.bits = Be (n - 1) - 1 from Nat.min_eq_left (by show _ ≤ 64; omega)]
  rw [show (1 : Int) * 2 ^ (Be (n - 1) - 1) = ((2 ^ (Be (n - 1) - 1) : Nat) : Int) from by push_cast; omega, h2]
  exact wrap64 (by omega) (by omega)
 refine Aa hs ?_;exact Ct (by rfl) (by rfl) (by rfl)
theorem Zcy (l : List By) (h : 2 ≤ l.length) (h' : l.length ≤ 1000000) : AC prog 241 [Bn l] [] (.tup [Q1 (l.take (sp l.length)), Q1 (l.drop (sp l.length))]) [] := by
 refine Ai [269] [] func241 ?_;refine run ?_;refine DF (YT l.length h (by omega)) (by rfl) (by rfl) (by rfl) ?_
 have h1 := IY h;have h2 := JV l.length;refine run ?_;refine Ct (by rfl) (by rfl) ?_
 simp only [Dh, CM, ↓Lk, ↓Mi, ↓reduceIte, Nat.reduceEqDiff, ↓M9, ↓Na, Option.map_some, List.take_length, List.drop_zero, AV.wk, AV.wk2, AV.wk1, List.map_cons, List.map_nil]
theorem Zm (l : List UInt8) : (sha l).length = 32 := by
 simp [sha, S8.list, EW]
def box (f : FuncId) : SObj := .cells [.fn (.func f) [] [.ptr 0 0]]
theorem VK {P : Program} {f g : FuncId} {l : List By} {s : By} (h : AC P f [Bn l, .ptr 0 0] [box g] (.st s) [box g]) (R : Ae) : AC P f [Bn l, .ptr 0 0] ([box g] ++ R) (.st s) ([box g] ++ R) := AC.at1 (T := [box g] ++ R) h 0 rfl rfl rfl rfl rfl
theorem Mb {l : List By} (h : ∀ x ∈ l, x.length ≤ 1000000) : (rt l).length ≤ 1000000 := by
 by_cases h2 : 2 ≤ l.length
 ·rw [Ma h2, Ki, Zm]; omega
 ·rw [NX (by omega)]
  cases l with
  | nil => simp
  | cons a l => exact h a (by simp)
theorem Z7 (k : Nat) : ∀ (l : List By), l.length ≤ k → 1 ≤ l.length → l.length ≤ 1000000 → (∀ x ∈ l, x.length ≤ 1000000) →
  AC prog 240 [Bn l, .ptr 0 0] [box 240] (.st (rt l)) [box 240] := by
 induction k with
 | zero => intro l h1 h2; omega
 | succ k ih =>
  intro l hk h1 hl hx;refine Ai [241, 242] [1000017, 1000020] func240 ?_;refine run ?_;refine Ge (fun hc => ?_) (fun hc => ?_)
  ·have hc : l.length = 1 := by simp at hc; omega
   obtain ⟨a, rfl⟩ := List.length_eq_one_iff.1 hc;refine run ?_;exact Aq (κ := [0]) (by rfl) (EI 0 (by rfl) (by rfl)) (by rfl) (by rfl) (by rfl)
  ·have hc : l.length ≠ 1 := by simp at hc; omega
   have h2 : 2 ≤ l.length := by omega
   have h3 := IY h2;have h4 := JV l.length;refine run ?_;refine DF (Zcy l h2 hl) (by rfl) (by rfl) (by rfl) ?_
   refine Aa @box.eq_1 ?_;refine Au ⟨VK (ih (l.take (sp l.length)) (by simp; omega) (by simp; omega) (by simp; omega) (fun x hx' => hx x (List.mem_of_mem_take hx'))), rfl⟩ ?_
   refine Aa @box.eq_1 ?_;refine Au ⟨VK (ih (l.drop (sp l.length)) (by simp; omega) (by simp; omega) (by simp; omega) (fun x hx' => hx x (List.mem_of_mem_drop hx'))), rfl⟩ ?_
   refine Aa @box.eq_1 ?_;refine DF (ZbV (rt (l.take (sp l.length))) (rt (l.drop (sp l.length))) (Mb (fun x hx' => hx x (List.mem_of_mem_take hx'))) (Mb (fun x hx' => hx x (List.mem_of_mem_drop hx')))) (by rfl) (by rfl) (by rfl) ?_
   refine Aa @box.eq_1 ?_;rw [Ma h2];exact Aq (κ := [0]) (by rfl) (EI 0 (by rfl) (by rfl)) (by rfl) (by rfl) (by rfl)
theorem Z5 (l : List By) (hl : l.length ≤ 1000000) (hx : ∀ x ∈ l, x.length ≤ 1000000) : AC prog 177 [Bn l] [] (.st (root l)) [] := by
 refine Ai [66] [] func177 ?_;by_cases h0 : l.length = 0
 ·refine run ?_
  refine DF (JX [] (by simp)) (by rfl) (by rfl) (by rfl) ?_
  refine run ?_
  have : root l = sha [] := if_pos (List.eq_nil_of_length_eq_zero h0);rw [this];exact Ct (by rfl) (by rfl) (by rfl)
 ·refine run ?_
  refine Au (Z7 l.length l (Nat.le_refl _) (by omega) hl hx) ?_
  refine Aa @box.eq_1 ?_
  have : root l = rt l := if_neg (fun e => h0 (by rw [e]; rfl))
  rw [this];exact Ct (by rfl) (by rfl) (by rfl)
theorem RA {l : List By} (h : 0 < l.length) : root l = rt l := if_neg (fun e => by rw [e] at h; simp at h)
end Pe
end
section
namespace Pe
open Tryz
open Go Go.RowKit Co Sg Ac It Sl
set_option maxRecDepth 100000
set_option maxHeartbeats 4000000
abbrev Ff (h : Head) : AV := .agg [.it .i64 h.server, .it .i64 h.size, .st h.root, .it .i64 h.time, .it .i64 h.sig.e, .it .i64 h.sig.s]
abbrev CY (l : List It.Entry) : AV := .sl .ro (l.map Az)
theorem G2 (e : It.Entry) : (AB e).length ≤ 200009 := by
 unfold AB;split
 ·rename_i h
  rw [Bool.and_eq_true] at h;have h1 := AZ.1 h.1;have := Ak e.time (by omega)
  have := bytesIt_len6 e.item;rw [List.length_append];omega
 ·exact Nat.zero_le _
theorem Dl (l : List It.Entry) : AE 50 (l.map Az) = true := BN 50 Az (fun _ => rfl) _
theorem Y1 (e : It.Entry) (h : Iz e.item) : AC prog 176 [Az e] [] (.st (D5 e)) [] := by
 refine Ai [50, 239] [] func176 ?_;have hl := G2 e;have k1 := Uz e h;have k2 := Zcf (AB e) (by omega)
 refine run ?_;refine cp k1 ?_;refine run ?_;refine cp k2 ?_;refine run ?_;exact Ab
theorem YR (l : List It.Entry) (hl : l.length ≤ 1000000) (hz : ∀ e ∈ l, Iz e.item) : AC prog 113 [CY l] [] (.st (B7 l)) [] := by
 refine Ai [176, 177] [] func113 ?_;have hsz := Dl l;refine run ?_;refine Bp (fun m e S => e 9 = CY l ∧ e 10 = .it .i64 (l.length : Int) ∧ ∃ (k : Nat) (acc : List By) (T : Ae), e 11 = .it .i64 (k : Int) ∧ e 3 = .sl (.own 0) (acc.map .st) ∧ S = .buf acc.length 9 1 :: T ∧ acc = (l.take k).map D5 ∧ k ≤ l.length ∧ m = l.length - k) l.length
  ⟨Ad, Ad, 0, [], [], Ad, Ad, rfl, by simp, by omega, rfl⟩ ?_
 rintro m e S ⟨s9, s10, k, acc, T, s11, s3, rfl, hacc, hk, rfl⟩
 have hT1 : ∀ y : SObj, (T ++ [y])[T.length]? = some y := fun y => by simp
 have hT2 : ∀ y z : SObj, (T ++ [y]).set T.length z = T ++ [z] := fun y z => by simp
 have hal : acc.length = k := by rw [hacc, List.length_map, List.length_take, Nat.min_eq_left hk]
 by_cases hlt : k < l.length
 ·have hg : l[k]? = some l[k] := List.getElem?_eq_getElem hlt
  have hzk := hz l[k] (List.getElem_mem hlt);have hst : acc ++ [D5 l[k]] = (l.take (k + 1)).map D5 := by rw [List.take_succ_eq_append_getElem hlt, List.map_append, ← hacc]; rfl
  generalize l[k] = x at *;have kx := Y1 x hzk;refine Aa (A8 s9 s10 s11 s3 hg hsz hT1 hT2) ?_;refine cp kx ?_;refine Aa (A4 s9 s10 s11 s3) ?_;exact AG (l.length - (k + 1)) (by omega) ⟨Ad, Ad, k + 1, acc ++ [D5 x], _, Ad, by rw [List.map_append]; exact Ad, by rw [List.length_append]; rfl, hst, by omega, rfl⟩
 ·obtain rfl : k = l.length := by omega
  rw [List.take_length] at hacc;have kr := Z5 acc (by omega) (fun x hx => by rw [hacc] at hx; rw [OH l x hx]; decide)
  rw [show B7 l = Mk.root acc from by rw [hacc]; rfl]
  refine Aa (A4 s9 s10 s11 s3) ?_;refine cp kr ?_;refine Aa s3 ?_;exact Ab
theorem GG {h : Head} : CF h = true ↔ (0 ≤ h.server ∧ h.server ≤ 19) ∧ (0 ≤ h.size ∧ h.size ≤ 1073741824) ∧ (0 ≤ h.time ∧ h.time ≤ 1099511627776) ∧ h.root.length = 32 ∧ (0 ≤ h.sig.e ∧ h.sig.e ≤ 2305843009213693949) ∧ (0 ≤ h.sig.s ∧ h.sig.s ≤ 2305843009213693949) := by
 rw [Md];simp only [AT, Bool.and_eq_true, AZ]
theorem QW (h : Head) : AC prog 62 [Ff h] [] (.bo (CF h)) [] := by
 refine Ai [] [] func62 ?_;have hf : ¬ ((0 ≤ h.server ∧ h.server ≤ 19) ∧ (0 ≤ h.size ∧ h.size ≤ 1073741824) ∧ (0 ≤ h.time ∧ h.time ≤ 1099511627776) ∧ h.root.length = 32 ∧ (0 ≤ h.sig.e ∧ h.sig.e ≤ 2305843009213693949) ∧ (0 ≤ h.sig.s ∧ h.sig.s ≤ 2305843009213693949)) → CF h = false := fun hn => Bool.eq_false_iff.2 fun r => hn (GG.1 r)
 by_cases h1 : 0 ≤ h.server
 rotate_left
 ·rw [hf (by omega)]
  refine run ?_;exact Ab
 by_cases h2 : h.server < 20
 rotate_left
 ·rw [hf (by omega)]
  refine run ?_;exact Ab
 by_cases h3 : 0 ≤ h.size
 rotate_left
 ·rw [hf (by omega)]
  refine run ?_;exact Ab
 by_cases h4 : h.size ≤ 1073741824
 rotate_left
 ·rw [hf (by omega)]
  refine run ?_;exact Ab
 by_cases h5 : 0 ≤ h.time
 rotate_left
 ·rw [hf (by omega)]
  refine run ?_;exact Ab
 by_cases h6 : h.time ≤ 1099511627776
 rotate_left
 ·rw [hf (by omega)]
  refine run ?_;exact Ab
 by_cases h7 : h.root.length = 32
 rotate_left
 ·have h7' : ¬ (h.root.length : Int) = 32 := by omega
  rw [hf (by omega)]
  refine Aa h7' ?_;exact Ab
 have h7' : (h.root.length : Int) = 32 := by omega
 by_cases h8 : 0 ≤ h.sig.e
 rotate_left
 ·rw [hf (by omega)]
  refine Aa h7' ?_;exact Ab
 by_cases h9 : h.sig.e ≤ 2305843009213693949
 rotate_left
 ·rw [hf (by omega)]
  refine Aa h7' ?_;exact Ab
 by_cases h10 : 0 ≤ h.sig.s
 rotate_left
 ·rw [hf (by omega)]
  refine Aa h7' ?_;exact Ab
 by_cases h11 : h.sig.s ≤ 2305843009213693949
 rotate_left
 ·rw [hf (by omega)]
  refine Aa h7' ?_;exact Ab
 rw [GG.2 (by omega)]
 refine Aa h7' ?_;exact Ab
theorem Zep {h : Head} (h1 : h.server < 9223372036854775808) (h2 : h.size < 9223372036854775808) (h3 : h.time < 9223372036854775808) (h4 : h.root.length ≤ 1000000) : (Dn h).length ≤ 1000100 := by
 have n1 := Ak h.server h1;have n2 := Ak h.size h2;have n3 := Ak h.time h3;have t1 := AR h4;have tw : (text IT).length = 5 := rfl;unfold Dn;simp only [List.length_append];omega
theorem Re (h : Head) (hr : CF h = true) : AC prog 64 [Ff h] [] (.st (Dn h)) [] := by
 refine Ai [33, 68] [] func64 ?_;have hh := GG.1 hr;have n1 := Ak h.server (by omega)
 have n2 := Ak h.size (by omega)
 have n3 := Ak h.time (by omega)
 have t1 := AR (s := h.root) (by omega)
 have tw : (text IT).length = 5 := rfl;unfold Dn;refine run ?_;refine cp (CO IT (by simp)) ?_
 refine run ?_;refine cp (Cf h.server (by omega) (by omega)) ?_
 refine run ?_;refine cp (Cf h.size (by omega) (by omega)) ?_
 refine run ?_;refine cp (CO h.root (by omega)) ?_
 refine run ?_;refine cp (Cf h.time (by omega) (by omega)) ?_
 refine run ?_;exact Ab
theorem Pu {h : Head} (hr : CF h = true) : (Dn h).length ≤ 1000100 := by
 have hh := GG.1 hr;exact Zep (by omega) (by omega) (by omega) (by omega)
theorem YI (p : Int) (h : Head) (hp : -9223372036854775808 ≤ p ∧ p ≤ 9223372036854775807) : AC prog 30 [.it .i64 p, Ff h] [] (.bo (JM p h)) [] := by
 refine Ai [62, 64, 63] [] func30 ?_;have kr := QW h;unfold JM;cases hr : CF h with
 | false =>
  rw [hr] at kr;refine run ?_;refine cp kr ?_;refine run ?_;exact Ab
 | true =>
  rw [hr] at kr;have hh := GG.1 hr;have hc := Pu hr;have kc := Re h hr;have kv := Yl p (Dn h) h.sig (by omega) hp (by omega)
  refine run ?_;refine cp kr ?_;refine run ?_;refine cp kc ?_;refine run ?_;refine cp kv ?_;refine run ?_;exact Ab
theorem Zl (k : Key) (server : Int) (l : List It.Entry) (time : Int) (hk : -9223372036854775808 ≤ k.secret ∧ k.secret ≤ 9223372036854775807) (hl : l.length ≤ 1000000) (hz : ∀ e ∈ l, Iz e.item) :
  AC prog 58 [Cr k, .it .i64 server, CY l, .it .i64 time] [] (Ff (Di k server l time)) [] := by
 refine Ai [34, 113, 62, 64, 114] [] func58 ?_;have k1 := Io k hk;have k2 := YR l hl hz;unfold Di;cases hr : k.right with
 | false =>
  rw [if_neg (by simp)]
  rw [hr] at k1;refine run ?_;refine cp k1 ?_;refine run ?_;exact Ab
 | true =>
  rw [if_pos rfl];rw [hr] at k1;have k3 := QW ⟨server, l.length, B7 l, time, BX⟩;cases hh : CF ⟨server, l.length, B7 l, time, BX⟩ with
  | false =>
   rw [hh] at k3;simp only [hh, Bool.false_eq_true, if_false];refine run ?_;refine cp k1 ?_;refine run ?_;refine cp k2 ?_;refine run ?_;refine cp k3 ?_;refine run ?_;exact Ab
  | true =>
   rw [hh] at k3;simp only [hh, if_true];have k4 := Re ⟨server, l.length, B7 l, time, BX⟩ hh;have hc := Pu hh;have k5 := Y4 k (Dn ⟨server, l.length, B7 l, time, BX⟩) (by omega) hk
   generalize Dn ⟨server, l.length, B7 l, time, BX⟩ = c at *;generalize Df k c = sg at *;refine run ?_;refine cp k1 ?_;refine run ?_;refine cp k2 ?_;refine run ?_;refine cp k3 ?_;refine run ?_;refine cp k4 ?_;refine run ?_;refine cp k5 ?_;refine run ?_;exact Ab
theorem Qz {l : List It.Entry} {k : Nat} (hk : k + 1 < l.length) (h : l[k + 1].time < l[k].time) : times l = false := by
 rw [Bool.eq_false_iff];intro ht;have := HW.1 ht k hk;omega
theorem QR (l : List It.Entry) (hl : l.length ≤ 140737488355328) : AC prog 39 [CY l] [] (.bo (times l)) [] := by
 refine As [] [] func39 ?_;have hsz := Dl l;refine run ?_;refine Bp (fun m e S => S = [] ∧ e 0 = CY l ∧ ∃ k : Nat, e 3 = .it .i64 ((k + 1 : Nat) : Int) ∧ (∀ j (h : j + 1 < l.length), j < k → l[j].time ≤ l[j + 1].time) ∧ m = l.length - k) l.length
  ⟨rfl, Ad, 0, Ad, fun j _ h => absurd h (Nat.not_lt_zero _), rfl⟩ ?_
 rintro m e S ⟨rfl, s0, k, s3, hall, rfl⟩
 by_cases hlt : k + 1 < l.length
 rotate_left
 ·rw [HW.2 fun j h => hall j h (by omega)]
  have hlt' : ¬ ((k + 1 : Nat) : Int) < (l.length : Int) := by omega
  refine Aa (A3 s0 s3 hlt') ?_;exact Ab
 have hlt' : ((k + 1 : Nat) : Int) < (l.length : Int) := by omega
 have hg1 : l[k + 1]? = some l[k + 1] := List.getElem?_eq_getElem hlt
 have hg0 : l[k]? = some l[k] := List.getElem?_eq_getElem (by omega)
 have hc : ((k + 1 : Nat) : Int) - 1 = (k : Int) := by omega
 have hbad := Qz hlt;have hgood : l[k].time ≤ l[k + 1].time → ∀ j (h : j + 1 < l.length), j < k + 1 → l[j].time ≤ l[j + 1].time := fun h j hj hjk => by
  by_cases e : j = k
  ·subst e; exact h
  ·exact hall j hj (by omega)
 generalize l[k + 1] = x at *;generalize l[k] = y at *;by_cases ht : x.time < y.time
 ·rw [hbad ht]
  refine Aa (A7 s0 s3 hlt' hg1 hg0 hc hsz) ?_;exact Ab
 ·refine Aa (A7 s0 s3 hlt' hg1 hg0 hc hsz) ?_
  exact AG (l.length - (k + 1)) (by omega) ⟨rfl, Ad, k + 1, Ad, hgood (by omega), rfl⟩
end Pe
end
section
namespace Pe
open Tryz
open Go Go.RowKit Co Sg Ac
set_option maxRecDepth 100000
set_option maxHeartbeats 4000000
theorem OF : ∀ (x y : By), (!Op.bytesLess x y) = (Op.bytesLess y x || y == x)
 | [], [] => rfl
 | _ :: _, [] => rfl
 | [], _ :: _ => rfl
 | a :: x, b :: y => by
  have ih := OF x y;rw [Op.bytesLess, Op.bytesLess];by_cases h : a = b
  ·subst h
   have h0 : ¬ a < a := by rw [UInt8.lt_iff_toNat_lt]; omega
   have hb : (a == a) = true := beq_self_eq_true a;rw [decide_eq_false h0, hb, show ((a :: y == a :: x) : Bool) = (y == x) from by simp]
   simpa using ih
  ·have h1 : (a == b) = false := by simpa using h
   have h2 : (b == a) = false := by simpa using fun e : b = a => h e.symm
   have h3 : ((b :: y == a :: x) : Bool) = false := by simpa using fun e : b = a => absurd e.symm h
   rw [h1, h2, h3];by_cases h4 : a < b
   ·have h5 : ¬ b < a := by rw [UInt8.lt_iff_toNat_lt] at *; omega
    simp [h4, h5]
   ·have h5 : b < a := by
     rw [UInt8.lt_iff_toNat_lt] at *
     have : a.toNat ≠ b.toNat := fun e => h (UInt8.toNat_inj.1 e)
     omega
    simp [h4, h5]
theorem MI (b l h : Nat) : AC prog 231 [.it .u8 b, .it .u8 l, .it .u8 h] [] (.bo (decide (l ≤ b) && decide (b ≤ h))) [] := by
 refine Ai [] [] func231 ?_;by_cases h1 : l ≤ b
 rotate_left
 ·have h1' : ¬ (l : Int) ≤ (b : Int) := by omega
  rw [decide_eq_false h1];refine Aa h1' ?_;exact Ab
 by_cases h2 : b ≤ h
 ·have h1' : (l : Int) ≤ (b : Int) := by omega
  have h2' : (b : Int) ≤ (h : Int) := by omega
  rw [decide_eq_true h1, decide_eq_true h2];refine Aa (an h1' h2') ?_;exact Ab
 ·have h1' : (l : Int) ≤ (b : Int) := by omega
  have h2' : ¬ (b : Int) ≤ (h : Int) := by omega
  rw [decide_eq_true h1, decide_eq_false h2];refine Aa (an h1' h2') ?_;exact Ab
theorem BZ (s : By) (hs : s.length ≤ 140737488355328) : AC prog 169 [.st s] [] (.bo (Ax s)) [] := by
 refine Ai [231] [] func169 ?_;unfold Ax;refine run ?_;refine Bp (fun m e S => S = [] ∧ e 0 = .st s ∧ ∃ k : Nat, e 3 = .it .i64 (k : Int) ∧ k ≤ s.length ∧ (s.take k).all EQ = true ∧ m = s.length - k) s.length ⟨rfl, Ad, 0, Ad, by omega, rfl, rfl⟩ ?_
 rintro m e S ⟨rfl, s0, k, s3, hk, hall, rfl⟩
 by_cases hlt : k < s.length
 rotate_left
 ·obtain rfl : k = s.length := by omega
  rw [List.take_length] at hall;rw [hall];by_cases h16 : s.length = 16
  ·have h16' : (s.length : Int) = 16 := by omega
   rw [decide_eq_true h16];refine Aa (A3 s0 s3 h16') ?_;exact Ab
  ·have h16' : ¬ (s.length : Int) = 16 := by omega
   rw [decide_eq_false h16];refine Aa (A3 s0 s3 h16') ?_;exact Ab
 have hg : s[k]? = some s[k] := List.getElem?_eq_getElem hlt
 have hstep : s.take (k + 1) = s.take k ++ [s[k]] := List.take_succ_eq_append_getElem hlt;have hbad : EQ s[k] = false → s.all EQ = false := fun h => List.all_eq_false.2 ⟨s[k], List.getElem_mem hlt, by simp [h]⟩
 generalize s[k] = b at *;have hu : u8 b = .it .u8 (b.toNat : Int) := rfl;have k1 := MI b.toNat 48 57;have k2 := MI b.toNat 97 102;have hx : EQ b = ((decide (48 ≤ b.toNat) && decide (b.toNat ≤ 57)) || (decide (97 ≤ b.toNat) && decide (b.toNat ≤ 102))) := rfl;generalize (decide (48 ≤ b.toNat) && decide (b.toNat ≤ 57)) = c1 at *;generalize (decide (97 ≤ b.toNat) && decide (b.toNat ≤ 102)) = c2 at *;refine Aa (A4 s0 s3 hg hu) ?_;refine cp k1 ?_;cases c1 with
 | true =>
  refine Aa (A4 s0 s3 hg hu) ?_;exact AG (s.length - (k + 1)) (by omega) ⟨rfl, Ad, k + 1, Ad, by omega, by rw [hstep, List.all_append, hall]; simp [hx], rfl⟩
 | false =>
  refine Aa (A4 s0 s3 hg hu) ?_;refine cp k2 ?_;cases c2 with
  | true =>
   refine Aa (A4 s0 s3 hg hu) ?_;exact AG (s.length - (k + 1)) (by omega) ⟨rfl, Ad, k + 1, Ad, by omega, by rw [hstep, List.all_append, hall]; simp [hx], rfl⟩
  | false =>
   rw [hbad (by rw [hx]; rfl), Bool.and_false]
   refine Aa (A4 s0 s3 hg hu) ?_;exact Ab
theorem GX (s : By) (hs : s.length ≤ 140737488355328) : AC prog 233 [.st s] [] (.bo (BY s)) [] := by
 refine Ai [231] [] func233 ?_;refine run ?_;refine Bp (fun m e S => S = [] ∧ e 0 = .st s ∧ ∃ k : Nat, e 3 = .it .i64 (k : Int) ∧ k ≤ s.length ∧ (∀ j (hj : j < s.length), j < k → (if j = 0 then Cy s[j] else CU s[j]) = true) ∧ m = s.length - k) s.length ⟨rfl, Ad, 0, Ad, by omega, fun j _ h => absurd h (Nat.not_lt_zero _), rfl⟩ ?_
 rintro m e S ⟨rfl, s0, k, s3, hk, hall, rfl⟩
 by_cases hlt : k < s.length
 rotate_left
 ·obtain rfl : k = s.length := by omega
  by_cases h1 : 1 ≤ s.length
  rotate_left
  ·have h1' : ¬ (1 : Int) ≤ (s.length : Int) := by omega
   obtain rfl : s = [] := List.eq_nil_of_length_eq_zero (by omega)
   refine Aa (A3 s0 s3 h1') ?_;exact Ab
  have h1' : (1 : Int) ≤ (s.length : Int) := by omega
  by_cases h2 : s.length ≤ 24
  ·have h2' : (s.length : Int) ≤ 24 := by omega
   rw [SQ (by omega) h2 fun j hj => hall j hj hj]
   refine Aa (A4 s0 s3 h1' h2') ?_;exact Ab
  ·have h2' : ¬ (s.length : Int) ≤ 24 := by omega
   rw [SR (by omega)]
   refine Aa (A4 s0 s3 h1' h2') ?_;exact Ab
 have hg : s[k]? = some s[k] := List.getElem?_eq_getElem hlt
 have hbad : (if k = 0 then Cy s[k] else CU s[k]) = false → BY s = false := SS hlt
 have hgood : (if k = 0 then Cy s[k] else CU s[k]) = true → ∀ j (hj : j < s.length), j < k + 1 → (if j = 0 then Cy s[j] else CU s[j]) = true := fun h j hj hjk => by
  by_cases e : j = k
  ·subst e; exact h
  ·exact hall j hj (by omega)
 generalize s[k] = b at *;have hu : u8 b = .it .u8 (b.toNat : Int) := rfl;have k1 := MI b.toNat 97 122;have k2 := MI b.toNat 48 57;have hx : Cy b = (decide (97 ≤ b.toNat) && decide (b.toNat ≤ 122)) := rfl;have hy : CU b = (Cy b || (decide (48 ≤ b.toNat) && decide (b.toNat ≤ 57)) || decide (b.toNat = 95)) := rfl;rw [← hx] at k1;clear hx;generalize (decide (48 ≤ b.toNat) && decide (b.toNat ≤ 57)) = c2 at *;refine Aa (A4 s0 s3 hg hu) ?_;refine cp k1 ?_;cases hl : Cy b with
 | true =>
  rw [hl] at hy hgood;refine Aa (A4 s0 s3 hg hu) ?_;exact AG (s.length - (k + 1)) (by omega) ⟨rfl, Ad, k + 1, Ad, by omega, hgood (by rw [hy]; simp), rfl⟩
 | false =>
  rw [hl] at hy hbad hgood;by_cases h0 : k = 0
  ·subst h0
   rw [hbad (by simp)]
   refine Aa (A4 s0 s3 hg hu) ?_;exact Ab
  have h0' : ¬ (k : Int) = 0 := by omega
  rw [if_neg h0] at hbad hgood;cases c2 with
  | true =>
   refine Aa (A5 s0 s3 hg hu h0') ?_;refine cp k2 ?_;refine Aa (A4 s0 s3 hg hu) ?_;exact AG (s.length - (k + 1)) (by omega) ⟨rfl, Ad, k + 1, Ad, by omega, hgood (by rw [hy]; simp), rfl⟩
  | false =>
   by_cases h95 : b.toNat = 95
   ·have e95 : ((b.toNat : Int) != 95) = false := by rw [h95]; rfl
    refine Aa (A5 s0 s3 hg hu h0') ?_;refine cp k2 ?_;refine Aa (A5 s0 s3 hg hu e95) ?_;exact AG (s.length - (k + 1)) (by omega) ⟨rfl, Ad, k + 1, Ad, by omega, hgood (by rw [hy, h95]; rfl), rfl⟩
   ·have e95 : ((b.toNat : Int) != 95) = true := PA (by omega)
    rw [hbad (by rw [hy, decide_eq_false h95]; rfl)]
    refine Aa (A5 s0 s3 hg hu h0') ?_;refine cp k2 ?_;refine Aa (A5 s0 s3 hg hu e95) ?_;exact Ab
theorem Ir (l : List By) (hs : ∀ s ∈ l, s.length ≤ 140737488355328) (hl : l.length ≤ 140737488355328) : AC prog 172 [Bn l] [] (.bo (BS l)) [] := by
 refine As [169] [] func172 ?_;unfold BS;refine run ?_;refine Bp (fun m e S => S = [] ∧ e 0 = Bn l ∧ ∃ k : Nat, e 3 = .it .i64 (k : Int) ∧ k ≤ l.length ∧ (∀ j (h : j < l.length), j < k → Ax l[j] = true) ∧
  (∀ j (h : j + 1 < l.length), j + 1 < k → (Op.bytesLess l[j + 1] l[j] || l[j + 1] == l[j]) = false) ∧ m = l.length - k) l.length ⟨rfl, Ad, 0, Ad, by omega, fun j _ h => absurd h (Nat.not_lt_zero _), fun j _ h => absurd h (Nat.not_lt_zero _), rfl⟩ ?_
 rintro m e S ⟨rfl, s0, k, s3, hk, hid, hasc, rfl⟩
 by_cases hlt : k < l.length
 rotate_left
 ·obtain rfl : k = l.length := by omega
  have h1 : l.all Ax = true := List.all_eq_true.2 fun x hx => by
   obtain ⟨j, hj, rfl⟩ := List.getElem_of_mem hx;exact hid j hj hj
  rw [h1, PF fun j h => hasc j h h]
  by_cases h64 : l.length ≤ 64
  ·have h64' : (l.length : Int) ≤ 64 := by omega
   rw [decide_eq_true h64];refine Aa (A3 s0 s3 h64') ?_;exact Ab
  ·have h64' : ¬ (l.length : Int) ≤ 64 := by omega
   rw [decide_eq_false h64];refine Aa (A3 s0 s3 h64') ?_;exact Ab
 have hg : l[k]? = some l[k] := List.getElem?_eq_getElem hlt
 have hsk := hs l[k] (List.getElem_mem hlt);have ki := BZ l[k] hsk;cases hb : Ax l[k] with
 | false =>
  have : l.all Ax = false := List.all_eq_false.2 ⟨l[k], List.getElem_mem hlt, by simp [hb]⟩
  rw [this, Bool.and_false, Bool.false_and];rw [hb] at ki;refine Aa (A3 s0 s3 hg) ?_;refine cp ki ?_;refine Aa (A3 s0 s3 hg) ?_;exact Ab
 | true =>
  rw [hb] at ki;have hid' : ∀ j (h : j < l.length), j < k + 1 → Ax l[j] = true := fun j h hj => by
   by_cases e : j = k
   ·subst e; exact hb
   ·exact hid j h (by omega)
  cases k with
  | zero =>
   refine Aa (A3 s0 s3 hg) ?_;refine cp ki ?_;refine Aa (A3 s0 s3 hg) ?_;exact AG (l.length - 1) (by omega) ⟨rfl, Ad, 1, Ad, by omega, hid', fun j _ h => by omega, rfl⟩
  | succ k =>
   have hg' : l[k]? = some l[k] := List.getElem?_eq_getElem (by omega)
   have hc : ((k + 1 : Nat) : Int) - 1 = (k : Int) := by omega
   have hpos : (0 : Int) < ((k + 1 : Nat) : Int) := by omega
   cases hcmp : (Op.bytesLess l[k + 1] l[k] || l[k + 1] == l[k]) with
   | true =>
    have hcm : Op.bytesLess l[k] l[k + 1] = false := by
     have := OF l[k] l[k + 1];rw [hcmp] at this;simpa using this
    rw [PG (j := k) hlt hcmp, Bool.and_false];refine Aa (A3 s0 s3 hg) ?_;refine cp ki ?_;refine Aa (A7 s0 s3 hg hg' hc hcm hpos) ?_;exact Ab
   | false =>
    have hcm : Op.bytesLess l[k] l[k + 1] = true := by
     have := OF l[k] l[k + 1];rw [hcmp] at this;simpa using this
    refine Aa (A3 s0 s3 hg) ?_;refine cp ki ?_;refine Aa (A7 s0 s3 hg hg' hc hcm hpos) ?_;exact AG (l.length - (k + 1 + 1)) (by omega) ⟨rfl, Ad, k + 1 + 1, Ad, by omega, hid', fun j h hj => by
     by_cases e : j = k
     ·subst e; exact hcmp
     ·exact hasc j h (by omega), rfl⟩
end Pe
end
section
namespace Pe
open Tryz
open Go Go.RowKit Co Sg Ac
set_option maxRecDepth 100000
set_option maxHeartbeats 4000000
theorem Zbq (n : Int) : pub n = (decide (1 ≤ n) && decide (n < 2305843009213693951)) := by
 unfold pub wi;rw [show decide (n ≤ 2305843009213693950) = decide (n < 2305843009213693951) by rw [Bool.eq_iff_iff]; simp only [decide_eq_true_eq]; omega]
theorem KE (n : Int) : AC prog 232 [.it .i64 n] [] (.bo (pub n)) [] := by
 refine As [] [] func232 ?_;rw [Zbq];by_cases h : 1 ≤ n
 ·rw [decide_eq_true h]
  refine run ?_;exact Ab
 ·rw [decide_eq_false h]
  refine run ?_;exact Ab
theorem MK (b : Box) : AC prog 268 [Gk b] [] (.bo (DJ b)) [] := by
 refine As [] [] func268 ?_;unfold DJ;rw [GE];by_cases h1 : b.nonce.length = 32
 ·rw [decide_eq_true h1]
  by_cases h2 : b.tag.length = 16
  ·rw [decide_eq_true h2]
   refine run ?_;exact Ab
  ·rw [decide_eq_false h2]
   refine run ?_;exact Ab
 ·rw [decide_eq_false h1]
  refine run ?_;exact Ab
theorem Uk (b : Box) : AC prog 267 [Gk b] [] (.bo (decide (b = Cu))) [] := by
 refine As [] [] func267 ?_;rw [Pz];cases h1 : (b.nonce == []) with
 | false =>
  refine Aa h1 ?_;exact Ab
 | true =>
  cases h2 : (b.data == []) with
  | false =>
   refine Aa (an h1 h2) ?_;exact Ab
  | true =>
   refine Aa (an h1 h2) ?_;exact Ab
theorem TP (a : Ac.Act) (hw : a.wraps.length ≤ 140737488355328) : AC prog 237 [Bl a] [] (.bo (En a)) [] := by
 refine As [232, 268] [] func237 ?_;unfold En;have hsz : AE 5 (a.wraps.map Bb) = true := BN 5 Bb (fun _ => rfl) _
 refine run ?_;refine Bp (fun m e S => e 1 = .ptr 0 0 ∧ ∃ (k : Nat) (T : Ae), e 3 = .it .i64 (k : Int) ∧ S = .cells (G9 a) :: T ∧ k ≤ a.wraps.length ∧ (∀ j (h : j < a.wraps.length), j < k → BH a.wraps[j] = true) ∧ m = a.wraps.length - k) (a.wraps.length)
  ⟨Ad, 0, [], Ad, rfl, by omega, fun j _ h => absurd h (Nat.not_lt_zero _), rfl⟩ ?_
 rintro m e S ⟨s1, k, T, s3, rfl, hk, hall, rfl⟩
 by_cases hlt : k < a.wraps.length
 rotate_left
 ·obtain rfl : k = a.wraps.length := by omega
  have h1 : a.wraps.all BH = true := List.all_eq_true.2 fun x hx => by
   obtain ⟨j, hj, rfl⟩ := List.getElem_of_mem hx;exact hall j hj hj
  have h2 : decide (a.wraps.length = a.to.length) = ((a.wraps.length : Int) == (a.to.length : Int)) := by
   rw [Bool.eq_iff_iff];simp only [decide_eq_true_eq, beq_iff_eq];omega
  rw [h1, h2];have hx : ¬ ((a.wraps.length : Nat) : Int) < (a.wraps.length : Int) := by omega
  refine Aa (A3 s1 s3 hx) ?_;exact Ab
 have hg : a.wraps[k]? = some a.wraps[k] := List.getElem?_eq_getElem hlt
 have hbad : BH a.wraps[k] = false → a.wraps.all BH = false := fun h => List.all_eq_false.2 ⟨_, List.getElem_mem hlt, by simp [h]⟩
 have hnext : BH a.wraps[k] = true → ∀ j (h : j < a.wraps.length), j < k + 1 → BH a.wraps[j] = true := fun hb j h hj => by
  by_cases e : j = k
  ·subst e; exact hb
  ·exact hall j h (by omega)
 generalize a.wraps[k] = x at *;have hT1 : ∀ y : SObj, (T ++ [y])[T.length]? = some y := fun y => by simp
 have hT2 : ∀ y z : SObj, (T ++ [y]).set T.length z = T ++ [z] := fun y z => by simp
 have hwx : BH x = (pub x.to && pub x.eph && DJ x.box) := rfl;rw [hwx] at hbad hnext;refine Aa (A6 s1 s3 hg hsz hT1 hT2) ?_;refine cp (KE x.to) ?_;cases h1 : pub x.to with
 | false =>
  rw [h1] at hbad;rw [hbad rfl];refine Aa (A4 s1 s3 hT1 hT2) ?_;exact Ab
 | true =>
  refine Aa (A4 s1 s3 hT1 hT2) ?_;refine cp (KE x.eph) ?_;cases h2 : pub x.eph with
  | false =>
   rw [h1, h2] at hbad;rw [hbad rfl];refine Aa (A4 s1 s3 hT1 hT2) ?_;exact Ab
  | true =>
   refine Aa (A4 s1 s3 hT1 hT2) ?_;refine cp (MK x.box) ?_;cases h3 : DJ x.box with
   | false =>
    rw [h1, h2, h3] at hbad;rw [hbad rfl];refine Aa (A4 s1 s3 hT1 hT2) ?_;exact Ab
   | true =>
    refine Aa (A4 s1 s3 hT1 hT2) ?_;exact AG (a.wraps.length - (k + 1)) (by omega) ⟨Ad, k + 1, T ++ [.cells (Bb x).cells], Ad, rfl, by omega, hnext (by rw [h1, h2, h3]; rfl), rfl⟩
def Gj (a : Ac.Act) : Bool := if a.scope = 2 then BY a.group else decide (a.group = [])
theorem Ui (a : Ac.Act) (h : a.group.length ≤ 140737488355328) : AC prog 236 [Bl a] [] (.bo (Gj a)) [] := by
 refine As [233] [] func236 ?_;unfold Gj;have hn := EO;by_cases h2 : a.scope = 2
 ·rw [if_pos h2]
  refine run ?_;refine cp (GX a.group h) ?_;refine run ?_;exact Ab
 ·rw [if_neg h2]
  refine Aa hn ?_;exact Ab
def PE (a : Ac.Act) : Bool := BS a.to && Gj a && (if a.scope = 0 then decide (a.epoch = 0) && Cx a.text && decide (a.body = Cu)
 else if a.scope = 3 then wi a.epoch 0 1073741824 && decide (a.text = []) && DJ a.body
 else if a.scope = 1 ∨ a.scope = 2 then wi a.epoch 0 1073741824 && decide (a.text = []) && DJ a.body && decide (a.to = []) else false)
theorem Ze9 (a : Ac.Act) : PE a = Ds a := by
 unfold PE Ds Gj E5;by_cases h0 : a.scope = 0
 ·simp only [h0, if_true, show ¬ (0 : Int) = 2 by decide, if_false]
  rw [Bool.eq_iff_iff]; simp only [Bool.and_eq_true]; constructor <;> (intro h; simp only [h, and_self])
 by_cases h3 : a.scope = 3
 ·simp only [h3, show ¬ (3 : Int) = 0 by decide, show ¬ (3 : Int) = 2 by decide, if_false, if_true, or_true, decide_true, Bool.or_true, Bool.true_and]
  rw [Bool.eq_iff_iff]; simp only [Bool.and_eq_true]; constructor <;> (intro h; simp only [h, and_self])
 by_cases h1 : a.scope = 1
 ·simp only [h1, show ¬ (1 : Int) = 0 by decide, show ¬ (1 : Int) = 2 by decide, show ¬ (1 : Int) = 3 by decide, if_false, if_true, true_or, decide_false, Bool.or_false]
  rw [Bool.eq_iff_iff]; simp only [Bool.and_eq_true]; constructor <;> (intro h; simp only [h, and_self])
 by_cases h2 : a.scope = 2
 ·simp only [h2, show ¬ (2 : Int) = 0 by decide, show ¬ (2 : Int) = 3 by decide, if_false, if_true, or_true, decide_false, Bool.or_false]
  rw [Bool.eq_iff_iff]; simp only [Bool.and_eq_true]; constructor <;> (intro h; simp only [h, and_self])
 ·simp only [if_neg h0, if_neg h2, if_neg h3, if_neg (show ¬ (a.scope = 1 ∨ a.scope = 2) from fun h => h.elim h1 h2), if_neg (show ¬ (a.scope = 1 ∨ a.scope = 3) from fun h => h.elim h1 h3), Bool.and_false, Bool.false_and]
theorem ML (a : Ac.Act) (h : Sz a) : AC prog 234 [Bl a] [] (.bo (Ds a)) [] := by
 rw [← Ze9];refine As [172, 236, 267, 268] [] func234 ?_;unfold PE;have hn := EO;have hl := Il a.to;have hs := GE a.text;refine run ?_;refine cp (Ir a.to h.tos h.to) ?_;cases c1 : BS a.to with
 | false =>
  refine run ?_;exact Ab
 | true =>
 refine run ?_;refine cp (Ui a h.group) ?_;cases c2 : Gj a with
 | false =>
  refine run ?_;exact Ab
 | true =>
 by_cases h0 : a.scope = 0
 ·rw [if_pos h0]
  by_cases e1 : a.epoch = 0
  rotate_left
  ·rw [decide_eq_false e1]
   refine run ?_;exact Ab
  rw [decide_eq_true e1, hs];cases e2 : decide ((a.text.length : Int) ≤ 500) with
  | false =>
   refine Aa e2 ?_;exact Ab
  | true =>
  refine Aa e2 ?_;refine cp (Uk a.body) ?_;refine run ?_;exact Ab
 rw [if_neg h0];by_cases h3 : a.scope = 3
 ·rw [if_pos h3]
  by_cases e1 : 0 ≤ a.epoch
  rotate_left
  ·rw [show wi a.epoch 0 1073741824 = false by unfold wi; rw [decide_eq_false e1]; rfl]
   refine run ?_;exact Ab
  by_cases e2 : a.epoch ≤ 1073741824
  rotate_left
  ·rw [show wi a.epoch 0 1073741824 = false by unfold wi; rw [decide_eq_false e2, Bool.and_false]]
   refine run ?_;exact Ab
  rw [show wi a.epoch 0 1073741824 = true from AZ.2 ⟨e1, e2⟩]
  cases e3 : decide (a.text = []) with
  | false =>
   refine Aa (an hn e3) ?_;exact Ab
  | true =>
  refine Aa (an hn e3) ?_;refine cp (MK a.body) ?_;refine run ?_;exact Ab
 rw [if_neg h3];by_cases h12 : a.scope = 1 ∨ a.scope = 2
 rotate_left
 ·rw [if_neg h12]
  have n1 : ¬ a.scope = 1 := fun h => h12 (.inl h)
  have n2 : ¬ a.scope = 2 := fun h => h12 (.inr h)
  refine run ?_;exact Ab
 rw [if_pos h12];rcases h12 with h12 | h12
 ·skip
  by_cases e1 : 0 ≤ a.epoch
  rotate_left
  ·rw [show wi a.epoch 0 1073741824 = false by unfold wi; rw [decide_eq_false e1]; rfl]
   refine run ?_;exact Ab
  by_cases e2 : a.epoch ≤ 1073741824
  rotate_left
  ·rw [show wi a.epoch 0 1073741824 = false by unfold wi; rw [decide_eq_false e2, Bool.and_false]]
   refine run ?_;exact Ab
  rw [show wi a.epoch 0 1073741824 = true from AZ.2 ⟨e1, e2⟩]
  cases e3 : decide (a.text = []) with
  | false =>
   refine Aa (an hn e3) ?_;exact Ab
  | true =>
  refine Aa (an hn e3) ?_;refine cp (MK a.body) ?_;cases e4 : DJ a.body with
  | false =>
   refine run ?_;exact Ab
  | true =>
  refine Aa hl ?_;exact Ab
 ·skip
  by_cases e1 : 0 ≤ a.epoch
  rotate_left
  ·rw [show wi a.epoch 0 1073741824 = false by unfold wi; rw [decide_eq_false e1]; rfl]
   refine run ?_;exact Ab
  by_cases e2 : a.epoch ≤ 1073741824
  rotate_left
  ·rw [show wi a.epoch 0 1073741824 = false by unfold wi; rw [decide_eq_false e2, Bool.and_false]]
   refine run ?_;exact Ab
  rw [show wi a.epoch 0 1073741824 = true from AZ.2 ⟨e1, e2⟩]
  cases e3 : decide (a.text = []) with
  | false =>
   refine Aa (an hn e3) ?_;exact Ab
  | true =>
  refine Aa (an hn e3) ?_;refine cp (MK a.body) ?_;cases e4 : DJ a.body with
  | false =>
   refine run ?_;exact Ab
  | true =>
  refine Aa hl ?_;exact Ab
def Bs (a : Ac.Act) : Ac.Act := { a with scope := 0, group := [], to := [], text := [], body := Cu, epoch := 0 }
theorem Fg (a : Ac.Act) : AC prog 235 [Bl a] [] (Bl (Bs a)) [] := by
 refine As [] [] func235 ?_;refine run ?_;exact AH
def AQ (a : Ac.Act) : Bool := decide (a.object = []) && decide (a.target = []) && decide (a.scope = 0) && decide (a.group = []) && decide (a.to = []) && decide (a.text = []) && decide (a.body = Cu) && decide (a.epoch = 0) && decide (a.wraps = []) && decide (a.n = 0) && decide (a.m = 0)
theorem Cb (a : Ac.Act) : AC prog 238 [Bl a] [] (.bo (AQ a)) [] := by
 refine As [267] [] func238 ?_;unfold AQ;have hn := EO;have hl1 := Il a.to;have hl2 := Il a.wraps;cases c0 : decide (a.object = []) with
 | false =>
  refine Aa (A4 hn hl1 hl2 c0) ?_;exact Ab
 | true =>
 cases c1 : decide (a.target = []) with
 | false =>
  refine Aa (A5 hn hl1 hl2 c0 @c1) ?_;exact Ab
 | true =>
 by_cases p2 : a.scope = 0
 rotate_left
 ·rw [decide_eq_false p2]
  refine Aa (A5 hn hl1 hl2 c0 @c1) ?_;exact Ab
 rw [decide_eq_true p2];cases c3 : decide (a.group = []) with
 | false =>
  refine Aa (A6 hn hl1 hl2 c0 @c1 c3) ?_;exact Ab
 | true =>
 cases c4 : decide (a.to = []) with
 | false =>
  refine Aa (A7 hn hl1 hl2 c0 @c1 c3 c4) ?_;exact Ab
 | true =>
 cases c5 : decide (a.text = []) with
 | false =>
  refine Aa (A8 hn hl1 hl2 c0 @c1 c3 c4 c5) ?_;exact Ab
 | true =>
 refine Aa (A8 hn hl1 hl2 c0 @c1 c3 c4 c5) ?_;refine cp (Uk a.body) ?_;cases c6 : decide (a.body = Cu) with
 | false =>
  refine run ?_;exact Ab
 | true =>
 by_cases p7 : a.epoch = 0
 rotate_left
 ·rw [decide_eq_false p7]
  refine Aa (A8 hn hl1 hl2 c0 @c1 c3 c4 c5) ?_;exact Ab
 rw [decide_eq_true p7];cases c8 : decide (a.wraps = []) with
 | false =>
  refine Aa (A9 hn hl1 hl2 c0 @c1 c3 c4 c5 c8) ?_;exact Ab
 | true =>
 by_cases p9 : a.n = 0
 rotate_left
 ·rw [decide_eq_false p9]
  refine Aa (A9 hn hl1 hl2 c0 @c1 c3 c4 c5 c8) ?_;exact Ab
 rw [decide_eq_true p9];by_cases p10 : a.m = 0
 rotate_left
 ·rw [decide_eq_false p10]
  refine Aa (A9 hn hl1 hl2 c0 @c1 c3 c4 c5 c8) ?_;exact Ab
 rw [decide_eq_true p10];refine Aa (A9 hn hl1 hl2 c0 @c1 c3 c4 c5 c8) ?_;exact Ab
def AL (a : Ac.Act) : Bool := match EK a.kind with
 | none => false
 | some r => out a r && r.ok a
theorem Zan (a : Ac.Act) : Ac.right a = (Ax a.author && Cp a && wi a.time 0 1099511627776 && AT a.sig && AL a) := by
 unfold Ac.right AL;cases h : EK a.kind with
 | none => rfl
 | some r =>
  have e : decide (Go.bits .andNot .i64 (HV a) r.mask = 0) = out a r := S5 r _ _ _ _ _ _ _ _ _ _ _;simp only [e]
theorem Ck (m : Int) : wi m 0 19 = (decide (0 ≤ m) && decide (m < 20)) := by
 unfold wi;rw [show decide (m ≤ 19) = decide (m < 20) by rw [Bool.eq_iff_iff]; simp only [decide_eq_true_eq]; omega]
theorem Cm (a : Ac.Act) : (decide (1 ≤ a.scope) && decide (a.scope ≤ 3) && Gj a) = E5 a.scope a.group := by
 unfold Gj E5;by_cases h2 : a.scope = 2
 ·rw [if_pos h2, if_pos h2, h2]; rfl
 rw [if_neg h2, if_neg h2];by_cases h13 : a.scope = 1 ∨ a.scope = 3
 ·rw [if_pos h13, decide_eq_true (show 1 ≤ a.scope by omega), decide_eq_true (show a.scope ≤ 3 by omega)]; rfl
 ·rw [if_neg h13]
  by_cases h1 : 1 ≤ a.scope
  ·rw [decide_eq_false (show ¬ a.scope ≤ 3 by omega), Bool.and_false]; rfl
  ·rw [decide_eq_false h1]; rfl
theorem Uj (a : Ac.Act) (h : Sz a) : AC prog 170 [Bl a] [] (.bo (AL a)) [] := by
 refine As [232, 233, 234, 235, 169, 172, 236, 237, 238] [] func170 ?_;have hn := EO;by_cases hr : 0 ≤ a.kind ∧ a.kind ≤ 23
 rotate_left
 ·have hv : AL a = false := by
   unfold AL;rw [ZF (by omega)]
  rw [hv];refine run ?_;exact Ab
 have hks : a.kind = 0 ∨ a.kind = 1 ∨ a.kind = 2 ∨ a.kind = 3 ∨ a.kind = 4 ∨ a.kind = 5 ∨ a.kind = 6 ∨ a.kind = 7 ∨ a.kind = 8 ∨ a.kind = 9 ∨ a.kind = 10 ∨ a.kind = 11 ∨ a.kind = 12 ∨ a.kind = 13 ∨ a.kind = 14 ∨ a.kind = 15 ∨ a.kind = 16 ∨ a.kind = 17 ∨ a.kind = 18 ∨ a.kind = 19 ∨ a.kind = 20 ∨ a.kind = 21 ∨ a.kind = 22 ∨ a.kind = 23 := by omega
 rcases hks with hk | hk | hk | hk | hk | hk | hk | hk | hk | hk | hk | hk | hk | hk | hk | hk | hk | hk | hk | hk | hk | hk | hk | hk
 ·have hv : AL a = (pub a.n && decide (0 ≤ a.m) && decide (a.m < 20) && BY a.text && AQ { a with text := [], n := 0, m := 0 }) := by
   unfold AL;rw [hk];show (out a .begin && Ru.ok a .begin) = _
   simp only [out, BQ, Ru.ok, home, Ac.grant, Ac.setup, ← Cm, Ck, AQ, Bs, decide_true, Bool.and_true, Bool.true_and];ac_rfl
  rw [hv];refine Aa hn ?_;refine cp (KE a.n) ?_;cases c0 : pub a.n with
  | false =>
   refine Aa hn ?_;refine cp (GX a.text h.text) ?_;refine Aa hn ?_;exact Ab
  | true =>
  by_cases p1 : 0 ≤ a.m
  rotate_left
  ·rw [decide_eq_false p1]
   refine Aa hn ?_;refine cp (GX a.text h.text) ?_;refine Aa hn ?_;exact Ab
  rw [decide_eq_true p1];by_cases p2 : a.m < 20
  rotate_left
  ·rw [decide_eq_false p2]
   refine Aa hn ?_;refine cp (GX a.text h.text) ?_;refine Aa hn ?_;exact Ab
  rw [decide_eq_true p2];refine Aa hn ?_;refine cp (GX a.text h.text) ?_;cases c3 : BY a.text with
  | false =>
   refine Aa hn ?_;exact Ab
  | true =>
  refine Aa hn ?_;refine cp (Cb { a with text := [], n := 0, m := 0 }) ?_
  refine Aa hn ?_;exact Ab
 ·have hv : AL a = (Ds a && AQ (Bs a)) := by
   unfold AL;rw [hk];show (out a .post && Ru.ok a .post) = _
   simp only [out, BQ, Ru.ok, home, Ac.grant, Ac.setup, ← Cm, Ck, wi, AQ, Bs, decide_true, Bool.and_true, Bool.true_and];ac_rfl
  rw [hv];refine Aa hn ?_;refine cp (ML a h) ?_;cases c0 : Ds a with
  | false =>
   refine Aa hn ?_;refine cp (Fg a) ?_;refine Aa hn ?_;exact Ab
  | true =>
  refine Aa hn ?_;refine cp (Fg a) ?_;refine Aa hn ?_;refine cp (Cb (Bs a)) ?_;refine Aa hn ?_;exact Ab
 ·have hv : AL a = (Ds a && Bd a.object && AQ { Bs a with object := [] }) := by
   unfold AL;rw [hk];show (out a .reply && Ru.ok a .reply) = _
   simp only [out, BQ, Ru.ok, home, Ac.grant, Ac.setup, ← Cm, Ck, wi, AQ, Bs, decide_true, Bool.and_true, Bool.true_and];ac_rfl
  rw [hv];refine Aa hn ?_;refine cp (ML a h) ?_;cases c0 : Ds a with
  | false =>
   refine Aa hn ?_;refine cp (Fg a) ?_;refine Aa hn ?_;exact Ab
  | true =>
  rw [B5];cases c1 : ((a.object.length : Int) == 32) with
  | false =>
   refine Aa (an hn @c1) ?_;refine cp (Fg a) ?_;refine Aa (an hn @c1) ?_;exact Ab
  | true =>
  refine Aa (an hn @c1) ?_;refine cp (Fg a) ?_;refine Aa (an hn @c1) ?_;refine cp (Cb { Bs a with object := [] }) ?_
  refine Aa (an hn @c1) ?_;exact Ab
 ·have hv : AL a = (Ds a && Bd a.object && AQ { Bs a with object := [] }) := by
   unfold AL;rw [hk];show (out a .reply && Ru.ok a .reply) = _
   simp only [out, BQ, Ru.ok, home, Ac.grant, Ac.setup, ← Cm, Ck, wi, AQ, Bs, decide_true, Bool.and_true, Bool.true_and];ac_rfl
  rw [hv];refine Aa hn ?_;refine cp (ML a h) ?_;cases c0 : Ds a with
  | false =>
   refine Aa hn ?_;refine cp (Fg a) ?_;refine Aa hn ?_;exact Ab
  | true =>
  rw [B5];cases c1 : ((a.object.length : Int) == 32) with
  | false =>
   refine Aa (an hn @c1) ?_;refine cp (Fg a) ?_;refine Aa (an hn @c1) ?_;exact Ab
  | true =>
  refine Aa (an hn @c1) ?_;refine cp (Fg a) ?_;refine Aa (an hn @c1) ?_;refine cp (Cb { Bs a with object := [] }) ?_
  refine Aa (an hn @c1) ?_;exact Ab
 ·have hv : AL a = (Bd a.object && AQ { a with object := [] }) := by
   unfold AL;rw [hk];show (out a .about && Ru.ok a .about) = _
   simp only [out, BQ, Ru.ok, home, Ac.grant, Ac.setup, ← Cm, Ck, wi, AQ, Bs, decide_true, Bool.and_true, Bool.true_and];ac_rfl
  rw [hv];rw [B5];cases c0 : ((a.object.length : Int) == 32) with
  | false =>
   refine Aa (an hn c0) ?_;exact Ab
  | true =>
  refine Aa (an hn c0) ?_;refine cp (Cb { a with object := [] }) ?_
  refine Aa (an hn c0) ?_;exact Ab
 ·have hv : AL a = (Bd a.object && AQ { a with object := [] }) := by
   unfold AL;rw [hk];show (out a .about && Ru.ok a .about) = _
   simp only [out, BQ, Ru.ok, home, Ac.grant, Ac.setup, ← Cm, Ck, wi, AQ, Bs, decide_true, Bool.and_true, Bool.true_and];ac_rfl
  rw [hv];rw [B5];cases c0 : ((a.object.length : Int) == 32) with
  | false =>
   refine Aa (an hn c0) ?_;exact Ab
  | true =>
  refine Aa (an hn c0) ?_;refine cp (Cb { a with object := [] }) ?_
  refine Aa (an hn c0) ?_;exact Ab
 ·have hv : AL a = (Bd a.object && AQ { a with object := [] }) := by
   unfold AL;rw [hk];show (out a .about && Ru.ok a .about) = _
   simp only [out, BQ, Ru.ok, home, Ac.grant, Ac.setup, ← Cm, Ck, wi, AQ, Bs, decide_true, Bool.and_true, Bool.true_and];ac_rfl
  rw [hv];rw [B5];cases c0 : ((a.object.length : Int) == 32) with
  | false =>
   refine Aa (an hn c0) ?_;exact Ab
  | true =>
  refine Aa (an hn c0) ?_;refine cp (Cb { a with object := [] }) ?_
  refine Aa (an hn c0) ?_;exact Ab
 ·have hv : AL a = (Ax a.target && AQ { a with target := [] }) := by
   unfold AL;rw [hk];show (out a .tie && Ru.ok a .tie) = _
   simp only [out, BQ, Ru.ok, home, Ac.grant, Ac.setup, ← Cm, Ck, wi, AQ, Bs, decide_true, Bool.and_true, Bool.true_and];ac_rfl
  rw [hv];refine Aa hn ?_;refine cp (BZ a.target h.target) ?_;cases c0 : Ax a.target with
  | false =>
   refine Aa hn ?_;exact Ab
  | true =>
  refine Aa hn ?_;refine cp (Cb { a with target := [] }) ?_
  refine Aa hn ?_;exact Ab
 ·have hv : AL a = (Ax a.target && AQ { a with target := [] }) := by
   unfold AL;rw [hk];show (out a .tie && Ru.ok a .tie) = _
   simp only [out, BQ, Ru.ok, home, Ac.grant, Ac.setup, ← Cm, Ck, wi, AQ, Bs, decide_true, Bool.and_true, Bool.true_and];ac_rfl
  rw [hv];refine Aa hn ?_;refine cp (BZ a.target h.target) ?_;cases c0 : Ax a.target with
  | false =>
   refine Aa hn ?_;exact Ab
  | true =>
  refine Aa hn ?_;refine cp (Cb { a with target := [] }) ?_
  refine Aa hn ?_;exact Ab
 ·have hv : AL a = (Ax a.target && AQ { a with target := [] }) := by
   unfold AL;rw [hk];show (out a .tie && Ru.ok a .tie) = _
   simp only [out, BQ, Ru.ok, home, Ac.grant, Ac.setup, ← Cm, Ck, wi, AQ, Bs, decide_true, Bool.and_true, Bool.true_and];ac_rfl
  rw [hv];refine Aa hn ?_;refine cp (BZ a.target h.target) ?_;cases c0 : Ax a.target with
  | false =>
   refine Aa hn ?_;exact Ab
  | true =>
  refine Aa hn ?_;refine cp (Cb { a with target := [] }) ?_
  refine Aa hn ?_;exact Ab
 ·have hv : AL a = (Ax a.target && AQ { a with target := [] }) := by
   unfold AL;rw [hk];show (out a .tie && Ru.ok a .tie) = _
   simp only [out, BQ, Ru.ok, home, Ac.grant, Ac.setup, ← Cm, Ck, wi, AQ, Bs, decide_true, Bool.and_true, Bool.true_and];ac_rfl
  rw [hv];refine Aa hn ?_;refine cp (BZ a.target h.target) ?_;cases c0 : Ax a.target with
  | false =>
   refine Aa hn ?_;exact Ab
  | true =>
  refine Aa hn ?_;refine cp (Cb { a with target := [] }) ?_
  refine Aa hn ?_;exact Ab
 ·have hv : AL a = (Ax a.target && AQ { a with target := [] }) := by
   unfold AL;rw [hk];show (out a .tie && Ru.ok a .tie) = _
   simp only [out, BQ, Ru.ok, home, Ac.grant, Ac.setup, ← Cm, Ck, wi, AQ, Bs, decide_true, Bool.and_true, Bool.true_and];ac_rfl
  rw [hv];refine Aa hn ?_;refine cp (BZ a.target h.target) ?_;cases c0 : Ax a.target with
  | false =>
   refine Aa hn ?_;exact Ab
  | true =>
  refine Aa hn ?_;refine cp (Cb { a with target := [] }) ?_
  refine Aa hn ?_;exact Ab
 ·have hv : AL a = (Bd a.object && Cx a.text && AQ { a with object := [], text := [] }) := by
   unfold AL;rw [hk];show (out a .reason && Ru.ok a .reason) = _
   simp only [out, BQ, Ru.ok, home, Ac.grant, Ac.setup, ← Cm, Ck, wi, AQ, Bs, decide_true, Bool.and_true, Bool.true_and];ac_rfl
  rw [hv];rw [B5];cases c0 : ((a.object.length : Int) == 32) with
  | false =>
   refine Aa (an hn c0) ?_;exact Ab
  | true =>
  rw [GE];cases c1 : decide ((a.text.length : Int) ≤ 500) with
  | false =>
   refine Aa (A3 hn c0 @c1) ?_;exact Ab
  | true =>
  refine Aa (A3 hn c0 @c1) ?_;refine cp (Cb { a with object := [], text := [] }) ?_
  refine Aa (A3 hn c0 @c1) ?_;exact Ab
 ·have hv : AL a = (Bd a.object && AQ { a with object := [] }) := by
   unfold AL;rw [hk];show (out a .about && Ru.ok a .about) = _
   simp only [out, BQ, Ru.ok, home, Ac.grant, Ac.setup, ← Cm, Ck, wi, AQ, Bs, decide_true, Bool.and_true, Bool.true_and];ac_rfl
  rw [hv];rw [B5];cases c0 : ((a.object.length : Int) == 32) with
  | false =>
   refine Aa (an hn c0) ?_;exact Ab
  | true =>
  refine Aa (an hn c0) ?_;refine cp (Cb { a with object := [] }) ?_
  refine Aa (an hn c0) ?_;exact Ab
 ·have hv : AL a = (Ds a && Bd a.object && AQ { Bs a with object := [] }) := by
   unfold AL;rw [hk];show (out a .reply && Ru.ok a .reply) = _
   simp only [out, BQ, Ru.ok, home, Ac.grant, Ac.setup, ← Cm, Ck, wi, AQ, Bs, decide_true, Bool.and_true, Bool.true_and];ac_rfl
  rw [hv];refine Aa hn ?_;refine cp (ML a h) ?_;cases c0 : Ds a with
  | false =>
   refine Aa hn ?_;refine cp (Fg a) ?_;refine Aa hn ?_;exact Ab
  | true =>
  rw [B5];cases c1 : ((a.object.length : Int) == 32) with
  | false =>
   refine Aa (an hn @c1) ?_;refine cp (Fg a) ?_;refine Aa (an hn @c1) ?_;exact Ab
  | true =>
  refine Aa (an hn @c1) ?_;refine cp (Fg a) ?_;refine Aa (an hn @c1) ?_;refine cp (Cb { Bs a with object := [] }) ?_
  refine Aa (an hn @c1) ?_;exact Ab
 ·have hv : AL a = (BS a.to && BY a.group && AQ { a with group := [], to := [] }) := by
   unfold AL;rw [hk];show (out a .circle && Ru.ok a .circle) = _
   simp only [out, BQ, Ru.ok, home, Ac.grant, Ac.setup, ← Cm, Ck, wi, AQ, Bs, decide_true, Bool.and_true, Bool.true_and];ac_rfl
  rw [hv];refine Aa hn ?_;refine cp (Ir a.to h.tos h.to) ?_;cases c0 : BS a.to with
  | false =>
   refine Aa hn ?_;exact Ab
  | true =>
  refine Aa hn ?_;refine cp (GX a.group h.group) ?_;cases c1 : BY a.group with
  | false =>
   refine Aa hn ?_;exact Ab
  | true =>
  refine Aa hn ?_;refine cp (Cb { a with group := [], to := [] }) ?_
  refine Aa hn ?_;exact Ab
 ·have hv : AL a = (BS a.to && decide (1 ≤ a.scope) && decide (a.scope ≤ 3) && Gj a && decide (0 ≤ a.epoch) && decide (a.epoch ≤ 1073741824) && En a && AQ { a with scope := 0, group := [], to := [], epoch := 0, wraps := [] }) := by
   unfold AL;rw [hk];show (out a .grant && Ru.ok a .grant) = _
   simp only [out, BQ, Ru.ok, home, Ac.grant, Ac.setup, ← Cm, Ck, wi, AQ, Bs, decide_true, Bool.and_true, Bool.true_and];ac_rfl
  rw [hv];refine Aa hn ?_;refine cp (Ir a.to h.tos h.to) ?_;cases c0 : BS a.to with
  | false =>
   refine Aa hn ?_;exact Ab
  | true =>
  by_cases p1 : 1 ≤ a.scope
  rotate_left
  ·rw [decide_eq_false p1]
   refine Aa hn ?_;exact Ab
  rw [decide_eq_true p1];by_cases p2 : a.scope ≤ 3
  rotate_left
  ·rw [decide_eq_false p2]
   refine Aa hn ?_;exact Ab
  rw [decide_eq_true p2];refine Aa hn ?_;refine cp (Ui a h.group) ?_;cases c3 : Gj a with
  | false =>
   refine Aa hn ?_;exact Ab
  | true =>
  by_cases p4 : 0 ≤ a.epoch
  rotate_left
  ·rw [decide_eq_false p4]
   refine Aa hn ?_;exact Ab
  rw [decide_eq_true p4];by_cases p5 : a.epoch ≤ 1073741824
  rotate_left
  ·rw [decide_eq_false p5]
   refine Aa hn ?_;exact Ab
  rw [decide_eq_true p5];refine Aa hn ?_;refine cp (TP a h.wraps) ?_;cases c6 : En a with
  | false =>
   refine Aa hn ?_;exact Ab
  | true =>
  refine Aa hn ?_;refine cp (Cb { a with scope := 0, group := [], to := [], epoch := 0, wraps := [] }) ?_
  refine Aa hn ?_;exact Ab
 ·by_cases ho : a.object = []
  ·have hv : AL a = (BY a.text && Ax a.target && AQ { a with text := [], object := [], target := [] }) := by
    unfold AL;rw [hk];show (out a .label && Ru.ok a .label) = _
    have hd : Bd a.object = false := by unfold Bd; rw [ho]; rfl
    simp only [out, BQ, Ru.ok, Ac.label, hd, ho, Bool.false_and, Bool.false_or, AQ, Bs, decide_true, Bool.and_true, Bool.true_and];ac_rfl
   rw [hv];have hob : (a.object == []) = true := by rw [ho]; rfl
   refine Aa (an hn hob) ?_;refine cp (GX a.text h.text) ?_;cases c0 : BY a.text with
   | false =>
    refine Aa (an hn hob) ?_;refine cp (BZ a.target h.target) ?_;refine Aa (an hn hob) ?_;exact Ab
   | true =>
   refine Aa (an hn hob) ?_;refine cp (BZ a.target h.target) ?_;cases c1 : Ax a.target with
   | false =>
    refine Aa (an hn hob) ?_;exact Ab
   | true =>
   refine Aa (an hn hob) ?_;refine cp (Cb { a with text := [], object := [], target := [] }) ?_
   refine Aa (an hn hob) ?_;exact Ab
  ·have hv : AL a = (BY a.text && Bd a.object && decide (a.target = []) && AQ { a with text := [], object := [], target := [] }) := by
    unfold AL;rw [hk];show (out a .label && Ru.ok a .label) = _
    simp only [out, BQ, Ru.ok, Ac.label, decide_eq_false ho, Bool.and_false, Bool.or_false, AQ, Bs, decide_true, Bool.and_true, Bool.true_and];ac_rfl
   rw [hv];have hob : (a.object == []) = false := by simpa using ho
   refine Aa (an hn hob) ?_;refine cp (GX a.text h.text) ?_;cases c0 : BY a.text with
   | false =>
    refine Aa (an hn hob) ?_;exact Ab
   | true =>
   rw [B5];cases c1 : ((a.object.length : Int) == 32) with
   | false =>
    refine Aa (A3 hn hob @c1) ?_;exact Ab
   | true =>
   cases c2 : decide (a.target = []) with
   | false =>
    refine Aa (A4 hn hob @c1 c2) ?_;exact Ab
   | true =>
   refine Aa (A4 hn hob @c1 c2) ?_;refine cp (Cb { a with text := [], object := [], target := [] }) ?_
   refine Aa (A4 hn hob @c1 c2) ?_;exact Ab
 ·have hv : AL a = (pub a.n && decide (0 ≤ a.m) && decide (a.m < 20) && AQ { a with n := 0, m := 0 }) := by
   unfold AL;rw [hk];show (out a .move && Ru.ok a .move) = _
   simp only [out, BQ, Ru.ok, home, Ac.grant, Ac.setup, ← Cm, Ck, AQ, Bs, decide_true, Bool.and_true, Bool.true_and];ac_rfl
  rw [hv];refine Aa hn ?_;refine cp (KE a.n) ?_;cases c0 : pub a.n with
  | false =>
   refine Aa hn ?_;exact Ab
  | true =>
  by_cases p1 : 0 ≤ a.m
  rotate_left
  ·rw [decide_eq_false p1]
   refine Aa hn ?_;exact Ab
  rw [decide_eq_true p1];by_cases p2 : a.m < 20
  rotate_left
  ·rw [decide_eq_false p2]
   refine Aa hn ?_;exact Ab
  rw [decide_eq_true p2];refine Aa hn ?_;refine cp (Cb { a with n := 0, m := 0 }) ?_
  refine Aa hn ?_;exact Ab
 ·have hv : AL a = (BS a.to && decide (0 < a.to.length) && En a && decide (1 ≤ a.n) && decide (a.n ≤ (a.to.length : Int)) && pub a.m && AQ { a with to := [], wraps := [], n := 0, m := 0 }) := by
   unfold AL;rw [hk];show (out a .setup && Ru.ok a .setup) = _
   simp only [out, BQ, Ru.ok, home, Ac.grant, Ac.setup, ← Cm, Ck, wi, AQ, Bs, decide_true, Bool.and_true, Bool.true_and];ac_rfl
  rw [hv];refine Aa hn ?_;refine cp (Ir a.to h.tos h.to) ?_;cases c0 : BS a.to with
  | false =>
   refine Aa hn ?_;exact Ab
  | true =>
  by_cases p1 : 0 < a.to.length
  rotate_left
  ·rw [decide_eq_false p1]
   refine Aa hn ?_;exact Ab
  rw [decide_eq_true p1];refine Aa hn ?_;refine cp (TP a h.wraps) ?_;cases c2 : En a with
  | false =>
   refine Aa hn ?_;exact Ab
  | true =>
  by_cases p3 : 1 ≤ a.n
  rotate_left
  ·rw [decide_eq_false p3]
   refine Aa hn ?_;exact Ab
  rw [decide_eq_true p3];by_cases p4 : a.n ≤ (a.to.length : Int)
  rotate_left
  ·rw [decide_eq_false p4]
   refine Aa hn ?_;exact Ab
  rw [decide_eq_true p4];refine Aa hn ?_;refine cp (KE a.m) ?_;cases c5 : pub a.m with
  | false =>
   refine Aa hn ?_;exact Ab
  | true =>
  refine Aa hn ?_;refine cp (Cb { a with to := [], wraps := [], n := 0, m := 0 }) ?_
  refine Aa hn ?_;exact Ab
 ·have hv : AL a = (Bd a.object && AQ { a with object := [] }) := by
   unfold AL;rw [hk];show (out a .about && Ru.ok a .about) = _
   simp only [out, BQ, Ru.ok, home, Ac.grant, Ac.setup, ← Cm, Ck, wi, AQ, Bs, decide_true, Bool.and_true, Bool.true_and];ac_rfl
  rw [hv];rw [B5];cases c0 : ((a.object.length : Int) == 32) with
  | false =>
   refine Aa (an hn c0) ?_;exact Ab
  | true =>
  refine Aa (an hn c0) ?_;refine cp (Cb { a with object := [] }) ?_
  refine Aa (an hn c0) ?_;exact Ab
 ·have hv : AL a = (Bd a.object && Cx a.text && AQ { a with object := [], text := [] }) := by
   unfold AL;rw [hk];show (out a .reason && Ru.ok a .reason) = _
   simp only [out, BQ, Ru.ok, home, Ac.grant, Ac.setup, ← Cm, Ck, wi, AQ, Bs, decide_true, Bool.and_true, Bool.true_and];ac_rfl
  rw [hv];rw [B5];cases c0 : ((a.object.length : Int) == 32) with
  | false =>
   refine Aa (an hn c0) ?_;exact Ab
  | true =>
  rw [GE];cases c1 : decide ((a.text.length : Int) ≤ 500) with
  | false =>
   refine Aa (A3 hn c0 @c1) ?_;exact Ab
  | true =>
  refine Aa (A3 hn c0 @c1) ?_;refine cp (Cb { a with object := [], text := [] }) ?_
  refine Aa (A3 hn c0 @c1) ?_;exact Ab
 ·have hv : AL a = (Bd a.object && decide (0 ≤ a.n) && decide (a.n ≤ 1) && AQ { a with object := [], n := 0 }) := by
   unfold AL;rw [hk];show (out a .judge && Ru.ok a .judge) = _
   simp only [out, BQ, Ru.ok, home, Ac.grant, Ac.setup, ← Cm, Ck, wi, AQ, Bs, decide_true, Bool.and_true, Bool.true_and];ac_rfl
  rw [hv];rw [B5];cases c0 : ((a.object.length : Int) == 32) with
  | false =>
   refine Aa (an hn c0) ?_;exact Ab
  | true =>
  by_cases p1 : 0 ≤ a.n
  rotate_left
  ·rw [decide_eq_false p1]
   refine Aa (an hn c0) ?_;exact Ab
  rw [decide_eq_true p1];by_cases p2 : a.n ≤ 1
  rotate_left
  ·rw [decide_eq_false p2]
   refine Aa (an hn c0) ?_;exact Ab
  rw [decide_eq_true p2];refine Aa (an hn c0) ?_;refine cp (Cb { a with object := [], n := 0 }) ?_
  refine Aa (an hn c0) ?_;exact Ab
 ·have hv : AL a = (Ax a.target && Cx a.text && decide (0 ≤ a.n) && decide (a.n ≤ 1099511627776) && AQ { a with target := [], text := [], n := 0 }) := by
   unfold AL;rw [hk];show (out a .list && Ru.ok a .list) = _
   simp only [out, BQ, Ru.ok, home, Ac.grant, Ac.setup, ← Cm, Ck, wi, AQ, Bs, decide_true, Bool.and_true, Bool.true_and];ac_rfl
  rw [hv];refine Aa hn ?_;refine cp (BZ a.target h.target) ?_;cases c0 : Ax a.target with
  | false =>
   refine Aa hn ?_;exact Ab
  | true =>
  rw [GE];cases c1 : decide ((a.text.length : Int) ≤ 500) with
  | false =>
   refine Aa (an hn @c1) ?_;exact Ab
  | true =>
  by_cases p2 : 0 ≤ a.n
  rotate_left
  ·rw [decide_eq_false p2]
   refine Aa (an hn @c1) ?_;exact Ab
  rw [decide_eq_true p2];by_cases p3 : a.n ≤ 1099511627776
  rotate_left
  ·rw [decide_eq_false p3]
   refine Aa (an hn @c1) ?_;exact Ab
  rw [decide_eq_true p3];refine Aa (an hn @c1) ?_;refine cp (Cb { a with target := [], text := [], n := 0 }) ?_
  refine Aa (an hn @c1) ?_;exact Ab
end Pe
end
end Go.Proofs.YtldohjjoicmfpaaGreatDoor
