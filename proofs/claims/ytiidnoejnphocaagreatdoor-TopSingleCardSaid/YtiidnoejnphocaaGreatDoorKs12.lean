import Derived.Test.YtiidnoejnphocaaGreatDoorKs11
set_option linter.unusedSectionVars false
set_option linter.unusedVariables false
set_option linter.unusedSimpArgs false
namespace Go.Proofs.YtiidnoejnphocaaGreatDoor
section
namespace Ql
open Tryz
open Go Co Sg Ac It Sl
def OF (n m : Int) : Int := if n.tmod m < 0 then n.tmod m + m else n.tmod m
theorem pickN_in {n m : Int} (hm : 0 < m) : 0 ≤ OF n m ∧ OF n m < m := by
 have h1 : -m < n.tmod m ∧ n.tmod m < m := by
  rcases Int.le_total 0 n with h | h
  ·rw [Int.tmod_eq_emod_of_nonneg h]
   have := Int.emod_nonneg n (show m ≠ 0 by omega)
   have := Int.emod_lt_of_pos n hm;omega
  ·have e : n = -(-n) := by omega
   rw [e, Int.neg_tmod, Int.tmod_eq_emod_of_nonneg (by omega)]
   have := Int.emod_nonneg (-n) (show m ≠ 0 by omega)
   have := Int.emod_lt_of_pos (-n) hm;omega
 unfold OF;split <;> omega
end Ql
end
section
namespace Sl
open Tryz
open Go Co Sg Ac It
def pickN47 (n m : Int) : Int := if n.tmod m < 0 then n.tmod m + m else n.tmod m
theorem RV {n m : Int} (hm : 0 < m) : 0 ≤ pickN47 n m ∧ pickN47 n m < m := Ql.pickN_in hm
end Sl
end
section
namespace Pe
open Tryz
open Go Sm Mk
set_option maxRecDepth 100000
abbrev Q2 (l : List By) : AV := .sl .full (l.map .st)
theorem OO (l : List UInt8) : AC prog 94 [.st l] [] (.bo ((l.length : Int) == 32)) [] := by
 refine Ar [] [] func94 ?_;refine run ?_;exact Ab
theorem Zei (l : List By) (hl : l.length ≤ 1000000) : AC prog 95 [At l] [] (.bo (l.all fun s => (s.length : Int) == 32)) [] := by
 refine Ar [94] [] func95 ?_;refine run ?_;refine AF (fun m e S => S = [] ∧ e 5 = At l ∧ e 6 = .it .i64 (l.length : Int) ∧ ∃ k, e 7 = .it .i64 ((k : Nat) : Int) ∧ k ≤ l.length ∧ (l.take k).all (fun s => (s.length : Int) == 32) = true ∧ m = l.length - k) l.length ⟨rfl, Ad, by simp [↓H4], 0, Ad, by omega, rfl, rfl⟩ ?_
 rintro m e S ⟨rfl, h5, h6, k, h7, hk, hall, rfl⟩
 refine Aa (A3 @h5 @h6 @h7) ?_;refine Fy (fun hc => ?_) (fun hc => ?_)
 ·have hlt : k < l.length := by have := of_decide_eq_true hc; omega
  have hg : l[k]? = some l[k] := List.getElem?_eq_getElem hlt
  refine Aa (A4 @h5 @h6 @h7 @hg) ?_;refine Bu (OO l[k]) (by rfl) (by rfl) (by rfl) ?_
  refine Aa (A4 @h5 @h6 @h7 @hg) ?_;refine Fy (fun hd => ?_) (fun hd => ?_)
  ·refine Aa (A3 @h5 @h6 @h7) ?_
   have : (l.all fun s => (s.length : Int) == 32) = false := by
    rw [List.all_eq_false];exact ⟨l[k], List.getElem_mem hlt, by simpa using hd⟩
   rw [this];exact Ab
  ·refine Aa (A3 @h5 @h6 @h7) ?_
   exact Ao (l.length - (k + 1)) (by omega) ⟨rfl, Ad, Ad, k + 1, Ad, by omega, by rw [List.take_succ_eq_append_getElem hlt, List.all_append, hall]; simpa using hd, rfl⟩
 ·have hge : k = l.length := by have := of_decide_eq_false hc; omega
  refine Aa (A3 @h5 @h6 @h7) ?_;subst hge;rw [List.take_length] at hall;rw [hall];exact Ab
theorem Za3 (l : List UInt8) (h : l.length ≤ 1000000) : AC prog 85 [.st l] [] (.st (leaf l)) [] := by
 refine Ar [61] [] func85 ?_;refine run ?_;refine Bu (Jc (0 :: l) (by simp; omega)) (by rfl) (by rfl) (by rfl) ?_
 refine run ?_;exact Ab
theorem MG (l r : List UInt8) (h : l.length ≤ 1000000) (h' : r.length ≤ 1000000) : AC prog 89 [.st l, .st r] [] (.st (Gn l r)) [] := by
 refine Ar [61] [] func89 ?_;refine run ?_;refine Bu (Jc (1 :: (l ++ r)) (by simp; omega)) (by rfl) (by rfl) (by rfl) ?_
 refine run ?_;exact Ab
theorem Yf {n : Nat} (h : 2 ≤ n) : 2 ^ (AU (n - 1) - 1) = sp n := by
 unfold AU sp;rw [if_neg (by omega)]
 rfl
theorem QZ (n : Nat) (h : 2 ≤ n) (h' : n < 9223372036854775808) : AC prog 153 [.it .i64 n] [] (.it .i64 (sp n)) [] := by
 refine Ar [184] [] func153 ?_;have hu : IntKind.u64.wrap ((n : Int) - 1) = ((n - 1 : Nat) : Int) := by
  rw [show (n : Int) - 1 = ((n - 1 : Nat) : Int) from by omega, NR]
  simp; omega
 refine Aa @hu ?_;refine Bu (MR (n - 1) (by omega)) (by rfl) (by rfl) (by rfl) ?_
 have hb := GA (n - 1);have hs : IM .i64 1 ((AU (n - 1) : Int) - 1) = some (.it .i64 (sp n : Int)) := by
  have h1 := Fl h;have h2 := Yf h;have h3 : 0 < AU (n - 1) := by unfold AU; rw [if_neg (by omega)]; omega
  have h4 : AU (n - 1) ≤ 63 := by
   unfold AU;rw [if_neg (by omega)]
   have := (Nat.log2_lt (n := n - 1) (k := 63) (by omega)).2 (by omega)
   omega
  unfold IM;rw [if_pos (by omega)]
  congr 2
  rw [show ((AU (n - 1) : Int) - 1).toNat = AU (n - 1) - 1 from by omega, show min (AU (n - 1) - 1) IntKind.i64.bits = AU (n - 1) - 1 from Nat.min_eq_left (by show _ ≤ 64; omega)]
  rw [show (1 : Int) * 2 ^ (AU (n - 1) - 1) = ((2 ^ (AU (n - 1) - 1) : Nat) : Int) from by push_cast; omega, h2]
  exact wrap64 (by omega) (by omega)
 refine Aa @hs ?_;exact Ab
theorem Tm (l : List By) (h : 2 ≤ l.length) (h' : l.length ≤ 1000000) : AC prog 88 [At l] [] (.tup [Q2 (l.take (sp l.length)), Q2 (l.drop (sp l.length))]) [] := by
 refine Ar [153] [] func88 ?_;refine run ?_;refine Bu (QZ l.length h (by omega)) (by rfl) (by rfl) (by rfl) ?_
 have h1 := Fl h;have h2 := FM l.length;refine run ?_;refine F0 (by rfl) (by rfl) ?_
 simp only [Cu, Cg, ↓H4, ↓Mx, ↓reduceIte, Nat.reduceEqDiff, ↓Ny, ↓Nz, Option.map_some, List.take_length, List.drop_zero, AV.wk, AV.wk2, AV.wk1, List.map_cons, List.map_nil]
theorem Rb (l : List UInt8) : (sha l).length = 32 := by
 simp [sha, S8.list, Fe]
def box (f : FuncId) : SObj := .cells [.fn (.func f) [] [.ptr 0 0]]
theorem Vd {P : Program} {f g : FuncId} {l : List By} {s : By} (h : AC P f [At l, .ptr 0 0] [box g] (.st s) [box g]) (R : Ae) : AC P f [At l, .ptr 0 0] ([box g] ++ R) (.st s) ([box g] ++ R) := AC.at1 (T := [box g] ++ R) h 0 rfl rfl rfl rfl rfl
theorem Mo {l : List By} (h : ∀ x ∈ l, x.length ≤ 1000000) : (rt l).length ≤ 1000000 := by
 by_cases h2 : 2 ≤ l.length
 ·rw [Mn h2, Gn, Rb]; omega
 ·rw [Oj (by omega)]
  cases l with
  | nil => simp
  | cons a l => exact h a (by simp)
theorem Zg (k : Nat) : ∀ (l : List By), l.length ≤ k → 1 ≤ l.length → l.length ≤ 1000000 → (∀ x ∈ l, x.length ≤ 1000000) →
  AC prog 87 [At l, .ptr 0 0] [box 87] (.st (rt l)) [box 87] := by
 induction k with
 | zero => intro l h1 h2; omega
 | succ k ih =>
  intro l hk h1 hl hx;refine Ar [88, 89] [1000017, 1000020] func87 ?_;refine run ?_;refine Fy (fun hc => ?_) (fun hc => ?_)
  ·have hc : l.length = 1 := by simp at hc; omega
   obtain ⟨a, rfl⟩ := List.length_eq_one_iff.1 hc;refine run ?_;exact Lq (κ := [0]) (by rfl) (I5 0 (by rfl) (by rfl)) (by rfl) (by rfl) (by rfl)
  ·have hc : l.length ≠ 1 := by simp at hc; omega
   have h2 : 2 ≤ l.length := by omega
   have h3 := Fl h2;have h4 := FM l.length;refine run ?_;refine Bu (Tm l h2 hl) (by rfl) (by rfl) (by rfl) ?_
   refine Aa @box.eq_1 ?_;refine BZ ⟨Vd (ih (l.take (sp l.length)) (by simp; omega) (by simp; omega) (by simp; omega) (fun x hx' => hx x (List.mem_of_mem_take hx'))), rfl⟩ ?_
   refine Aa @box.eq_1 ?_;refine BZ ⟨Vd (ih (l.drop (sp l.length)) (by simp; omega) (by simp; omega) (by simp; omega) (fun x hx' => hx x (List.mem_of_mem_drop hx'))), rfl⟩ ?_
   refine Aa @box.eq_1 ?_;refine Bu (MG (rt (l.take (sp l.length))) (rt (l.drop (sp l.length))) (Mo (fun x hx' => hx x (List.mem_of_mem_take hx'))) (Mo (fun x hx' => hx x (List.mem_of_mem_drop hx')))) (by rfl) (by rfl) (by rfl) ?_
   refine Aa @box.eq_1 ?_;rw [Mn h2];exact Lq (κ := [0]) (by rfl) (I5 0 (by rfl) (by rfl)) (by rfl) (by rfl) (by rfl)
theorem Ib (l : List By) (hl : l.length ≤ 1000000) (hx : ∀ x ∈ l, x.length ≤ 1000000) : AC prog 37 [At l] [] (.st (root l)) [] := by
 refine Ar [61] [] func37 ?_;by_cases h0 : l.length = 0
 ·refine run ?_
  refine Bu (Jc [] (by simp)) (by rfl) (by rfl) (by rfl) ?_
  refine run ?_
  have : root l = sha [] := if_pos (List.eq_nil_of_length_eq_zero h0);rw [this];exact Ab
 ·refine run ?_
  refine BZ (Zg l.length l (Nat.le_refl _) (by omega) hl hx) ?_
  refine Aa @box.eq_1 ?_
  have : root l = rt l := if_neg (fun e => h0 (by rw [e]; rfl))
  rw [this];exact Ab
theorem KH {l : List By} (h : 0 < l.length) : root l = rt l := if_neg (fun e => by rw [e] at h; simp at h)
theorem OL (l r : By) : (Gn l r).length = 32 := Rb _
theorem Zx (r : List By) (q : By) : (r.reverse ++ [q])[r.length]? = some q := by
 rw [List.getElem?_append_right (by simp)]; simp
theorem Zw (r : List By) (q : By) : (r.reverse ++ [q]).take r.length = r.reverse := by
 rw [List.take_append_of_le_length (by simp), List.take_of_length_le (by simp)]
theorem SO : ∀ (k : Nat) (l : List By) (m : Nat) (w : Bool), 0 < m → m ≤ l.length → l.length ≤ k → (link l m w).length ≤ k := by
 intro k;induction k with
 | zero => intro l m w h0 h1 h; omega
 | succ k ih =>
  intro l m w h0 h1 h;by_cases h2 : m = l.length
  ·subst h2; rw [OX]; split <;> simp
  ·have h3 := Fl (n := l.length) (by omega)
   have h4 := FM l.length;rw [OW h0 (by omega)]
   split
   ·have := ih (l.take (sp l.length)) m w h0 (by simp; omega) (by simp; omega); simp; omega
   ·have := ih (l.drop (sp l.length)) (m - sp l.length) false (by omega) (by simp; omega) (by simp; omega); simp; omega
theorem Za1 (k : Nat) : ∀ (l : List By) (m : Nat) (w : Bool), l.length ≤ k → 0 < m → m ≤ l.length → l.length ≤ 1000000 → (∀ x ∈ l, x.length ≤ 1000000) →
  AC prog 90 [At l, .it .i64 m, .bo w, .ptr 0 0] [box 90] (.sl (.own 1) ((link l m w).map .st)) [box 90, .buf (link l m w).length 9 1] := by
 induction k with
 | zero => intro l m w h1 h2; omega
 | succ k ih =>
  intro l m w hk h0 hm hl hx;refine Ar [88, 37] [] func90 ?_;by_cases h1 : m = l.length
  ·subst h1
   refine run ?_;rw [OX];cases w
   ·refine run ?_
    refine Bu (Ib l hl hx) (by rfl) (by rfl) (by rfl) ?_
    rw [KH (by omega)]
    refine run ?_;refine Na _ _ (Ay.reserve _ 7 (es := [.st (rt l)]) (by rfl) 9 1) [0, 1] (by rfl) (I4 0 1 (by decide) (by rfl) (by rfl) (by rfl) (by rfl)) (by rfl) (by rfl) (by rfl)
   ·refine run ?_
    refine Na _ _ (Ay.reserve _ 7 (es := []) (by rfl) 9 1) [0, 1] (by rfl) (I4 0 1 (by decide) (by rfl) (by rfl) (by rfl) (by rfl)) (by rfl) (by rfl) (by rfl)
  ·have h2 : 2 ≤ l.length := by omega
   have h3 := Fl h2;have h4 := FM l.length;refine run ?_;refine Bu (Tm l h2 hl) (by rfl) (by rfl) (by rfl) ?_
   have ht : (List.take (sp l.length) l).length = sp l.length := by simp; omega
   have hxt : ∀ x ∈ l.take (sp l.length), x.length ≤ 1000000 := fun x hx' => hx x (List.mem_of_mem_take hx')
   have hxd : ∀ x ∈ l.drop (sp l.length), x.length ≤ 1000000 := fun x hx' => hx x (List.mem_of_mem_drop hx')
   by_cases hs : m ≤ sp l.length
   ·have hp := SO (l.take (sp l.length)).length (l.take (sp l.length)) m w h0 (by simp; omega) (Nat.le_refl _)
    have hr : root (l.drop (sp l.length)) = rt (l.drop (sp l.length)) := KH (by simp; omega)
    refine Aa (an @box.eq_1 @ht) ?_;refine BZ (ih (l.take (sp l.length)) m w (by simp; omega) h0 (by simp; omega) (by simp; omega) hxt) ?_
    refine Aa (an @box.eq_1 @ht) ?_;refine Bu (Ib (l.drop (sp l.length)) (by simp; omega) hxd) (by rfl) (by rfl) (by rfl) ?_
    rw [hr];refine Aa (an @box.eq_1 @ht) ?_;rw [OW h0 (by omega), if_pos hs]
    exact Lq (κ := [0, 1]) (by rfl) (I4 0 1 (by decide) (by rfl) (by rfl) (by rfl) (by simp [SObj.ren])) (by rfl) (by rfl) (by simp [Cu, AV.ren, AV.r2, AV.r1, AV.r0, Mode.ren, AA, ↓H4])
   ·have hd : (l.drop (sp l.length)).length = l.length - sp l.length := List.length_drop
    have hp := SO (l.drop (sp l.length)).length (l.drop (sp l.length)) (m - sp l.length) false (by omega) (by omega) (Nat.le_refl _)
    have hr : root (l.take (sp l.length)) = rt (l.take (sp l.length)) := KH (by simp; omega)
    have hsub : ((m : Int) - (sp l.length : Int)) = ((m - sp l.length : Nat) : Int) := by omega
    refine Aa (A3 @box.eq_1 @ht @hsub) ?_;refine BZ (ih (l.drop (sp l.length)) (m - sp l.length) false (by simp; omega) (by omega) (by simp; omega) (by simp; omega) hxd) ?_
    refine Aa (an @box.eq_1 @ht) ?_;refine Bu (Ib (l.take (sp l.length)) (by simp; omega) hxt) (by rfl) (by rfl) (by rfl) ?_
    rw [hr];refine Aa (an @box.eq_1 @ht) ?_;rw [OW h0 (by omega), if_neg hs]
    exact Lq (κ := [0, 1]) (by rfl) (I4 0 1 (by decide) (by rfl) (by rfl) (by rfl) (by simp [SObj.ren])) (by rfl) (by rfl) (by simp [Cu, AV.ren, AV.r2, AV.r1, AV.r0, Mode.ren, AA, ↓H4])
theorem Za0 (l : List By) (m : Nat) (hm : m ≤ l.length) (hl : l.length ≤ 1000000) (hx : ∀ x ∈ l, x.length ≤ 1000000) :
  AC prog 38 [At l, .it .i64 m] [] (.tup [At (if m = 0 then [] else link l m true), .bo true]) [] := by
 refine Ar [] [] func38 ?_;by_cases h0 : m = 0
 ·refine run ?_
  rw [if_pos h0];exact Nb (by rfl) (by rfl) (by rfl)
 rw [if_neg h0];by_cases h1 : m = l.length
 ·subst h1
  refine run ?_;rw [OX];exact Nb (by rfl) (by rfl) (by rfl)
 ·refine run ?_
  refine BZ (Za1 l.length l m true (Nat.le_refl _) (by omega) hm hl hx) ?_
  refine Aa @box.eq_1 ?_;exact Nb (by rfl) (by rfl) (by rfl)
theorem Mp : ∀ (p : List By) (m n : Nat) (x : By) (w : Bool), x.length ≤ 1000000 → (∀ y ∈ p, y.length ≤ 1000000) → (B3 p m n x w).1.length ≤ 1000000 ∧ (B3 p m n x w).2.1.length ≤ 1000000
 | [], m, n, x, w, h, ha => by simp only [B3]; split <;> simp [h]
 | q :: r, m, n, x, w, h, ha => by
  have hq := ha q (by simp)
  simp only [B3]; split
  ·split
   ·exact ⟨h, h⟩
   ·split <;> simp [hq]
  ·split
   ·have := Mp r m (sp n) x w h (fun y hy => ha y (by simp [hy]))
    exact ⟨this.1, by rw [OL]; omega⟩
   ·exact ⟨by rw [OL]; omega, by rw [OL]; omega⟩
theorem Zd (p : List By) : ∀ (m n : Nat) (x : By) (w : Bool), 0 < m → m ≤ n → n ≤ 9223372036854775807 → p.length ≤ 1000000 → x.length ≤ 1000000 → (∀ y ∈ p, y.length ≤ 1000000) →
  AC prog 96 [.it .i64 m, .it .i64 n, .st x, At p.reverse, .bo w] [] (.tup [.st (B3 p m n x w).1, .st (B3 p m n x w).2.1, .bo (B3 p m n x w).2.2]) [] := by
 induction p with
 | nil =>
  intro m n x w h0 hm hn hp hx hall;refine Ar [96, 153, 89] [] func96 ?_
  have : List.reverse ([] : List By) = [] := rfl;simp only [B3, this];by_cases h1 : m = n
  ·subst h1
   cases w
   ·refine run ?_
    exact Ab
   ·refine run ?_
    exact Ab
  ·rw [if_neg (fun h => h1 h.1)]
   refine run ?_;exact Ab
 | cons q r ih =>
  intro m n x w h0 hm hn hp hx hall;refine Ar [96, 153, 89] [] func96 ?_;have hrev : List.reverse (q :: r) = r.reverse ++ [q] := by simp
  have hlr : r.reverse.length = r.length := List.length_reverse;rw [hrev];have hp' : r.length + 1 ≤ 1000000 := hp;by_cases h1 : m = n
  ·subst h1
   cases w
   ·simp only [B3, if_true, Bool.false_eq_true, if_false]
    by_cases hr : r = []
    ·subst hr
     rw [if_pos rfl];simp only [List.reverse_nil, List.nil_append];refine run ?_;exact Ab
    ·rw [if_neg hr]
     have : 0 < r.length := List.length_pos_iff.2 hr;refine Aa @hlr ?_;exact Ab
   ·simp only [B3, if_true]
    refine Aa @hlr ?_;exact Ab
  ·have hl := Zx r q
   have el : ((r.length + 1 : Nat) : Int) - 1 = (r.length : Int) := by omega
   have ht := Zw r q;refine Aa (A4 @hlr @el @hl @ht) ?_;refine Bu (QZ n (by omega) (by omega)) (by rfl) (by rfl) (by rfl) ?_
   have h3 := Fl (n := n) (by omega)
   have h4 := FM n;have hall' : ∀ y ∈ r, y.length ≤ 1000000 := fun y hy => hall y (by simp [hy])
   by_cases hs : m ≤ sp n
   ·refine Aa (A4 @hlr @el @hl @ht) ?_
    refine Bu (ih m (sp n) x w h0 hs (by omega) (by omega) hx hall') (by rfl) (by rfl) (by rfl) ?_
    refine Aa (A4 @hlr @el @hl @ht) ?_;refine Bu (MG _ q (Mp r m (sp n) x w hx hall').2 (hall q (by simp))) (by rfl) (by rfl) (by rfl) ?_
    refine Aa (A4 @hlr @el @hl @ht) ?_;simp only [B3, if_neg h1, if_pos hs];exact Ab
   ·have e1 : (m : Int) - (sp n : Int) = ((m - sp n : Nat) : Int) := by omega
    have e2 : (n : Int) - (sp n : Int) = ((n - sp n : Nat) : Int) := by omega
    refine Aa (A6 @hlr @el @hl @ht @e1 @e2) ?_;refine Bu (ih (m - sp n) (n - sp n) x false (by omega) (by omega) (by omega) (by omega) hx hall') (by rfl) (by rfl) (by rfl) ?_
    refine Aa (A4 @hlr @el @hl @ht) ?_;refine Bu (MG q _ (hall q (by simp)) (Mp r (m - sp n) (n - sp n) x false hx hall').1) (by rfl) (by rfl) (by rfl) ?_
    refine Aa (A4 @hlr @el @hl @ht) ?_;refine Bu (MG q _ (hall q (by simp)) (Mp r (m - sp n) (n - sp n) x false hx hall').2) (by rfl) (by rfl) (by rfl) ?_
    refine Aa (A4 @hlr @el @hl @ht) ?_;simp only [B3, if_neg h1, if_neg hs];exact Ab
abbrev digs (p : List By) : Bool := p.all fun s => (s.length : Int) == 32
def extB (m n : Int) (old now : By) (p : List By) : Bool :=
 if m < 0 ∨ n < m ∨ old.length ≠ 32 ∨ now.length ≠ 32 ∨ digs p = false then false else
 if m = 0 ∧ old = sha [] ∧ p.length = 0 then true else
 if m = n ∧ now = old ∧ p.length = 0 then true else
 if m = 0 ∨ m = n then false else
 (B3 p.reverse m.toNat n.toNat old true).2.2 && (B3 p.reverse m.toNat n.toNat old true).1 == old && (B3 p.reverse m.toNat n.toNat old true).2.1 == now
theorem Zcu (p : List By) (m n : Int) (old now : By) (hn : n ≤ 9223372036854775807) (hp : p.length ≤ 1000000) (hall : ∀ y ∈ p, y.length ≤ 1000000) :
  AC prog 41 [.it .i64 m, .it .i64 n, .st old, .st now, At p] [] (.bo (extB m n old now p)) [] := by
 refine Ar [94, 95, 96, 37] [] func41 ?_;by_cases a0 : m < 0
 ·rw [show extB m n old now p = false from if_pos (Or.inl a0)]
  refine run ?_;exact Ab
 by_cases a1 : n < m
 ·rw [show extB m n old now p = false from if_pos (Or.inr (Or.inl a1))]
  refine run ?_;exact Ab
 refine run ?_;refine Bu (OO old) (by rfl) (by rfl) (by rfl) ?_
 by_cases a2 : old.length = 32
 rotate_left
 ·rw [show extB m n old now p = false from if_pos (Or.inr (Or.inr (Or.inl a2)))]
  refine run ?_;exact Ab
 refine run ?_;refine Bu (OO now) (by rfl) (by rfl) (by rfl) ?_
 by_cases a3 : now.length = 32
 rotate_left
 ·rw [show extB m n old now p = false from if_pos (Or.inr (Or.inr (Or.inr (Or.inl a3))))]
  refine run ?_;exact Ab
 refine run ?_;refine Bu (Zei p (by omega)) (by rfl) (by rfl) (by rfl) ?_
 cases a4 : digs p
 ·have a4' : (p.all fun s => (s.length : Int) == 32) = false := a4
  rw [show extB m n old now p = false from if_pos (Or.inr (Or.inr (Or.inr (Or.inr a4))))]
  refine Aa @a4' ?_;exact Ab
 have a4' : (p.all fun s => (s.length : Int) == 32) = true := a4
 have hX : extB m n old now p = if m = 0 ∧ old = sha [] ∧ p.length = 0 then true else
   if m = n ∧ now = old ∧ p.length = 0 then true else
   if m = 0 ∨ m = n then false else
   (B3 p.reverse m.toNat n.toNat old true).2.2 && (B3 p.reverse m.toNat n.toNat old true).1 == old && (B3 p.reverse m.toNat n.toNat old true).2.1 == now := by
  unfold extB;rw [if_neg (by rw [a4]; simp; omega)]
 rw [hX];clear hX;by_cases b0 : m = 0
 ·refine Aa @a4' ?_
  refine Bu (Ib [] (by simp) (by simp)) (by rfl) (by rfl) (by rfl) ?_
  have hr : root [] = sha [] := rfl;rw [hr];by_cases b1 : old = sha []
  ·have b1' : (old == sha []) = true := by simp [b1]
   by_cases b2 : p.length = 0
   ·rw [if_pos ⟨b0, b1, b2⟩]
    refine Aa (an @a4' @b1') ?_;exact Ab
   ·rw [if_neg (fun h => b2 h.2.2), if_neg (fun h => b2 h.2.2), if_pos (Or.inl b0)]
    by_cases b3 : m = n
    ·cases b4 : (now == old)
     ·refine Aa (A3 @a4' @b1' @b4) ?_
      exact Ab
     ·refine Aa (A3 @a4' @b1' @b4) ?_
      exact Ab
    ·refine Aa (an @a4' @b1') ?_
     exact Ab
  ·have b1' : (old == sha []) = false := by simp [b1]
   rw [if_neg (fun h => b1 h.2.1)]
   by_cases b3 : m = n
   ·by_cases b4 : now = old
    ·have b4' : (now == old) = true := by simp [b4]
     by_cases b2 : p.length = 0
     ·rw [if_pos ⟨b3, b4, b2⟩]
      refine Aa (A3 @a4' @b1' @b4') ?_;exact Ab
     ·rw [if_neg (fun h => b2 h.2.2), if_pos (Or.inl b0)]
      refine Aa (A3 @a4' @b1' @b4') ?_;exact Ab
    ·have b4' : (now == old) = false := by simp [b4]
     rw [if_neg (fun h => b4 h.2.1), if_pos (Or.inl b0)]
     refine Aa (A3 @a4' @b1' @b4') ?_;exact Ab
   ·rw [if_neg (fun h => b3 h.1), if_pos (Or.inl b0)]
    refine Aa (an @a4' @b1') ?_;exact Ab
 rw [if_neg (fun h => b0 h.1)]
 by_cases b3 : m = n
 ·by_cases b4 : now = old
  ·have b4' : (now == old) = true := by simp [b4]
   by_cases b2 : p.length = 0
   ·rw [if_pos ⟨b3, b4, b2⟩]
    refine Aa (an @a4' @b4') ?_;exact Ab
   ·rw [if_neg (fun h => b2 h.2.2), if_pos (Or.inr b3)]
    refine Aa (an @a4' @b4') ?_;exact Ab
  ·have b4' : (now == old) = false := by simp [b4]
   rw [if_neg (fun h => b4 h.2.1), if_pos (Or.inr b3)]
   refine Aa (an @a4' @b4') ?_;exact Ab
 ·rw [if_neg (fun h => b3 h.1), if_neg (by simp [b0, b3])]
  refine Aa @a4' ?_;have f1 := Zd p.reverse m.toNat n.toNat old true (by omega) (by omega) (by omega) (by simp; omega) (by omega) (fun y hy => hall y (by simpa using hy))
  rw [List.reverse_reverse, show ((m.toNat : Nat) : Int) = m from by omega, show ((n.toNat : Nat) : Int) = n from by omega] at f1
  refine Bu f1 (by rfl) (by rfl) (by rfl) ?_
  generalize B3 p.reverse m.toNat n.toNat old true = R;obtain ⟨a, b, ok⟩ := R;cases ok
  ·refine Aa @a4' ?_
   exact Ab
  ·cases c1 : (a == old)
   ·refine Aa (an @a4' @c1) ?_
    exact Ab
   ·refine Aa (an @a4' @c1) ?_
    exact Ab
end Pe
end
section
namespace Sl
open Tryz
open Go Co Sg Ac It
structure Evidence where
 old : Head
 new : Head
 root : By
 link : List By
 deriving DecidableEq
def T5 : Evidence := ⟨MZ, MZ, [], []⟩
def OY (l : List By) (m : Nat) : List By := if m = 0 then [] else Mk.link l m true
def Jp (l : List It.Entry) (now old : Head) : Evidence × Bool :=
 if now.server ≠ old.server ∨ old.size < 0 ∨ now.size < old.size ∨ l.length < now.size then (T5, false)
 else if BG (l.take now.size.toNat) ≠ now.root ∨ BG (l.take old.size.toNat) = old.root then (T5, false)
 else (⟨old, now, BG (l.take old.size.toNat), OY ((l.take now.size.toNat).map Cy) old.size.toNat⟩, true)
def Jy (e : Evidence) : Bool := BJ e.old && BJ e.new && decide (e.root.length = 32) && decide (e.link.length ≤ 64) && e.link.all AP
def No (ps : List Int) (e : Evidence) : Bool :=
 Jy e && decide (e.old.server = e.new.server) && decide (e.old.server < ps.length) && EC (ps.getD e.old.server.toNat 0) e.old && EC (ps.getD e.old.server.toNat 0) e.new && !decide (e.root = e.old.root) && Pe.extB e.old.size e.new.size e.root e.new.root e.link
theorem Zb8 {e : Evidence} : Jy e = true ↔ BJ e.old = true ∧ BJ e.new = true ∧ e.root.length = 32 ∧ e.link.length ≤ 64 ∧ ∀ x ∈ e.link, x.length = 32 := by
 simp only [Jy, Bool.and_eq_true, decide_eq_true_eq, List.all_eq_true, AP, and_assoc]
end Sl
end
section
namespace Sl
open Tryz
open Go Co Sg Ac It
structure HeadFor (ps : List Int) (server : Int) (l : List It.Entry) (t : Nat) (h : Head) : Prop where
 srv : h.server = server
 size : h.size = t
 root : h.root = BG (l.take t)
 right : BJ h = true
theorem XW {ps : List Int} {server : Int} {k : Key} {l : List It.Entry} (g : Good ps server k l) (m : Mirror) (hm : m.server = server) {n : Nat} (hn : n ≤ l.length) (he : m.entries = l.take n) {frm t : Nat} (h1 : frm < t) (h2 : t ≤ l.length) (h3 : t - frm ≤ 64) {h : Head} (hh : HeadFor ps server l t h) :
  take ps m ⟨h, frm, (l.take t).drop frm⟩ =
   if EC k.pub h = false then (Gp, 3) else if n < frm then (Gp, 12) else if t ≤ n then (m, 0) else (⟨server, l.take t, m.heads ++ [h]⟩, 0) := by
 have s0 := g.s0;have s1 := g.s1;have hl : m.entries.length = n := by rw [he, List.length_take, Nat.min_eq_left hn]
 have hlen : ((l.take t).drop frm).length = t - frm := by rw [List.length_drop, List.length_take]; omega
 have hf : IB ⟨h, frm, (l.take t).drop frm⟩ = true := by
  unfold IB;simp only [hh.right, hh.size, hlen, Bool.true_and, Bool.and_eq_true, decide_eq_true_eq];omega
 have hall : ((l.take t).drop frm).all (sound ps) = true := List.all_eq_true.2 fun x hx => List.all_eq_true.1 g.honest.sound x (List.mem_of_mem_take (List.mem_of_mem_drop hx))
 unfold take KY;simp only [hf, hall, hh.srv, hh.size, hh.root, hm, g.key, Int.toNat_natCast, Int.ofNat_lt, Int.ofNat_le];rw [if_neg (by simp; omega)]
 cases hv : EC k.pub h with
 | false => simp
 | true =>
  simp only [Bool.true_eq_false, if_false];by_cases hg : n < frm
  ·rw [if_pos (by omega), if_pos hg]
  ·rw [if_neg (by omega), if_neg hg, he, Zax, if_neg (by simp), ZU l (by omega) hn (by omega), if_neg (by simp), XN g.honest.times, if_neg (by simp)]
   rw [List.length_take, Nat.min_eq_left hn]
end Sl
end
section
namespace Sl
open Tryz
open Go Co Sg Ac It
theorem Ti {ps : List Int} {server : Int} {k : Key} {l : List It.Entry} (g : Good ps server k l) {t : Nat} (h2 : t ≤ l.length) {time : Int} (ht : 0 ≤ time ∧ time ≤ 1099511627776) :
  HeadFor ps server l t (CL k server (l.take t) time) ∧ EC k.pub (CL k server (l.take t) time) = true := by
 have hl := g.len;have s0 := g.s0;have s1 := g.s1;have s2 := g.s2;obtain ⟨e, h3, h4⟩ := ZaI (k := k) (server := server) (l := l.take t) (time := time) g.right ⟨s0, by omega⟩ (by rw [List.length_take]; omega) ht
 refine ⟨⟨by rw [e], ?_, by rw [e], h3⟩, h4⟩
 rw [e];show ((l.take t).length : Int) = t
 rw [List.length_take, Nat.min_eq_left h2]
theorem Q6 {ps : List Int} {server : Int} {k : Key} {l : List It.Entry} (g : Good ps server k l) (m : Mirror) (hm : m.server = server) {x : Nat} (he : m.entries = l.take x) {frm y : Nat} (h0 : frm ≤ x) (h1 : frm < y) (hxy : x ≤ y) (h2 : y ≤ l.length) (h3 : y - frm ≤ 64) {time : Int} (ht : 0 ≤ time ∧ time ≤ 1099511627776) :
  ∃ r, take ps m ⟨CL k server (l.take y) time, frm, (l.take y).drop frm⟩ = (r, 0) ∧ r.server = server ∧ r.entries = l.take y := by
 obtain ⟨hh, hv⟩ := Ti g h2 ht;rw [XW g m hm (by omega) he h1 h2 h3 hh, hv, if_neg (by simp), if_neg (by omega)]
 by_cases c : y ≤ x
 ·obtain rfl : x = y := by omega
  rw [if_pos c];exact ⟨m, rfl, hm, he⟩
 ·rw [if_neg c]
  exact ⟨_, rfl, rfl, rfl⟩
theorem Yp {ps : List Int} {server : Int} {k : Key} {l : List It.Entry} (g : Good ps server k l) {x y : Nat} (h : x ≤ l.length) (now : Head) {time : Int} (ht : 0 ≤ time ∧ time ≤ 1099511627776) :
  (Jp l now (CL k server (l.take x) time)).2 = false := by
 obtain ⟨hh, _⟩ := Ti g h ht;unfold Jp;split
 ·rfl
 ·rw [hh.size, hh.root, Int.toNat_natCast, if_pos (.inr rfl)]
theorem Yq (ps : List Int) (a b : Head) (lk : List By) : No ps ⟨a, b, a.root, lk⟩ = false := by
 unfold No;simp
end Sl
end
section
namespace Sl
open Tryz
open Go Co Sg Ac It
def L5 : Nat → By
 | 0 => [115, 48]
 | 1 => [115, 49]
 | 2 => [115, 50]
 | _ => [115, 51]
def Bc (n : Nat) : Key := Jt (L5 n)
def CI : List Int := [(Bc 0).pub, (Bc 1).pub, (Bc 2).pub, (Bc 3).pub]
theorem L6 (n : Nat) : (Bc n).right = true := O4 _
def Dk : Int → List It.Item → List It.Entry
 | _, [] => []
 | t, i :: l => ⟨t, i⟩ :: Dk (t + 1) l
theorem LY : ∀ (l : List It.Item) (t : Int), (Dk t l).length = l.length
 | [], _ => rfl
 | x :: l, t => by rw [Dk, List.length_cons, LY l, List.length_cons]
theorem NZ : ∀ (l : List It.Item) (t : Int), 0 ≤ t → t + l.length ≤ 1099511627776 → ∀ e ∈ Dk t l, isTime e.time = true ∧ e.item ∈ l
 | [], _, _, _, e, he => by cases he
 | x :: l, t, h0, ht, e, he => by
  rw [List.length_cons] at ht;rcases List.mem_cons.1 he with rfl | he
  ·exact ⟨Bb.2 ⟨h0, by show t ≤ _; omega⟩, by simp⟩
  ·obtain ⟨h1, h2⟩ := NZ l (t + 1) (by omega) (by omega) e he
   exact ⟨h1, List.mem_cons_of_mem _ h2⟩
theorem QL : ∀ (l : List It.Item) (t : Int), times (Dk t l) = true
 | [], _ => rfl
 | [x], _ => rfl
 | x :: y :: l, t => by
  have h1 := QL (y :: l) (t + 1);show (decide (t ≤ t + 1) && times (Dk (t + 1) (y :: l))) = true
  rw [h1, decide_eq_true (by omega)]
  rfl
theorem Dg (ps : List Int) {a : Ac.Act} (h : Ac.right a = true) : It.right (Av a) = true ∧ It.signed ps (Av a) = true := by
 have hr : It.right (Av a) = true := (right_act (it := Av a) rfl).2 ⟨h, rfl, rfl, rfl⟩;refine ⟨hr, ?_⟩
 unfold It.signed;rw [hr];rfl
theorem XL {l : List It.Item} (h : ∀ i ∈ l, ∃ a, i = Av a ∧ Ac.right a = true) (hl : l.length ≤ 80) : Good CI 2 (Bc 2) (Dk 0 l) := by
 refine ⟨by decide, by show (2 : Int) < (4 : Nat); decide, by decide, rfl, L6 2, ⟨QL l 0, List.all_eq_true.2 fun e he => ?_⟩, by rw [LY]; exact hl⟩
 obtain ⟨h1, h2⟩ := NZ l 0 (by decide) (by omega) e he
 obtain ⟨a, ha, hr⟩ := h _ h2;obtain ⟨r1, r2⟩ := Dg CI hr;exact Yh.2 ⟨h1, by rw [ha]; exact r1, by rw [ha]; exact r2⟩
end Sl
end
section
namespace Tp
open Tryz
open Go Co Sg Ac It
def dg (a : Ac.Act) : By := It.digest (Av a)
def Is (a b : By) : Bool := Op.bytesLess a b || a == b
def Gs : List Ac.Act → By → Nat
 | [], _ => 0
 | a :: l, d => if (d == [] || !(dg a == d)) = true then Gs l d + 1 else 0
def Ix (l : List Ac.Act) (d : By) : Bool := decide (Gs l d < l.length)
def Cw : List Ac.Act → By → Nat
 | [], _ => 0
 | a :: l, d => if Is (dg a) d = true then Cw l d + 1 else 0
theorem OU : ∀ (l : List Ac.Act) (d : By), Cw l d ≤ l.length
 | [], _ => Nat.le_refl 0
 | a :: l, d => by
  unfold Cw;have := OU l d;split
  ·rw [List.length_cons]; omega
  ·exact Nat.zero_le _
def Eh (l : List Ac.Act) (a : Ac.Act) : List Ac.Act × Bool :=
 if Ix l (dg a) = true then (l, false) else (l.take (Cw l (dg a)) ++ a :: l.drop (Cw l (dg a)), true)
def LD (a b : Ac.Act) : Bool := if a.seq ≠ b.seq then decide (b.seq < a.seq) else !(Is (dg a) (dg b))
def Eo (out : List Ac.Act) (a : Ac.Act) : Nat → Nat
 | 0 => 0
 | k + 1 => if LD (out.getD k Au) a = true then Eo out a k else k + 1
theorem OD (out : List Ac.Act) (a : Ac.Act) : ∀ k, Eo out a k ≤ k
 | 0 => Nat.le_refl 0
 | k + 1 => by
  unfold Eo;have := OD out a k;split <;> omega
def En (out : List Ac.Act) (a : Ac.Act) : List Ac.Act := out.take (Eo out a out.length) ++ a :: out.drop (Eo out a out.length)
def El : List Ac.Act → List Ac.Act → List Ac.Act
 | out, [] => out
 | out, a :: l => El (En out a) l
def BD (l : List Ac.Act) (id : By) : List Ac.Act := (El [] l).filter fun a => a.author == id
theorem RO {out : List Ac.Act} {a x : Ac.Act} (h : x ∈ En out a) : x = a ∨ x ∈ out := by
 unfold En at h;rcases List.mem_append.1 h with h | h
 ·exact .inr (List.mem_of_mem_take h)
 ·rcases List.mem_cons.1 h with h | h
  ·exact .inl h
  ·exact .inr (List.mem_of_mem_drop h)
theorem RP (out : List Ac.Act) (a : Ac.Act) : (En out a).length = out.length + 1 := by
 have := OD out a out.length;unfold En;rw [List.length_append, List.length_cons, List.length_take, List.length_drop];omega
theorem Q0 : ∀ (l out : List Ac.Act) {x : Ac.Act}, x ∈ El out l → x ∈ out ∨ x ∈ l
 | [], _, _, h => .inl h
 | a :: l, out, x, h => by
  rcases Q0 l (En out a) h with h | h
  ·rcases RO h with rfl | h
   ·exact .inr (by simp)
   ·exact .inl h
  ·exact .inr (List.mem_cons_of_mem _ h)
theorem Oa : ∀ (l out : List Ac.Act), (El out l).length = out.length + l.length
 | [], _ => rfl
 | a :: l, out => by rw [El, Oa l, RP, List.length_cons]; omega
theorem VZ {l : List Ac.Act} {id : By} {x : Ac.Act} (h : x ∈ BD l id) : x ∈ l := by
 have := Q0 l [] (List.mem_filter.1 h).1;simpa using this
theorem ZeB (l : List Ac.Act) (id : By) : (BD l id).length ≤ l.length := by
 have h1 := List.length_filter_le (fun a : Ac.Act => a.author == id) (El [] l)
 have h2 := Oa l [];rw [List.length_nil] at h2;unfold BD;omega
structure KeyAt where
 frm : Int
 pub : Int
 home : Int
structure Chn where
 id : By
 acts : List Ac.Act
 keys : List KeyAt
 prev : By
 gen : Int
 fork : Bool
def CA (n : Int) : By := (Sm.hex (Sm.sha (text [97, 99, 116, 111, 114] ++ Ag n))).take 16
def DF (id : By) (a : Ac.Act) : Bool := !(!(a.author == id) || !(a.kind == 0) || !(a.seq == 0) || !(a.prev == []) || !(CA a.n == id)) && C7 a.n a
def Ce (l : List Ac.Act) (id : By) : List Ac.Act := l.filter (DF id)
def JY (k : Int) : Bool := k == 4 || k == 5 || k == 7 || k == 8 || k == 10 || k == 11 || k == 17 || k == 23
def Cz : List Ac.Act → By → Option Nat
 | [], _ => none
 | a :: l, d => if dg a = d then some 0 else (Cz l d).map (· + 1)
def Gm (c : Chn) (a : Ac.Act) : Bool :=
 if a.kind ≠ 6 ∧ a.kind ≠ 13 ∧ a.kind ≠ 14 then true
 else match Cz c.acts a.object with
  | none => false
  | some i => if a.kind = 6 then JY (c.acts.getD i Au).kind else EI (c.acts.getD i Au).kind
def Cc (c : Chn) (a : Ac.Act) : Bool :=
 Ac.right a && decide (a.author = c.id) && decide (a.seq = c.acts.length) && decide (a.prev = c.prev) && decide ((a.kind = 0) ↔ (c.acts.length = 0)) && Gm c a
def Do (c : Chn) : KeyAt := c.keys.getD (c.keys.length - 1) ⟨0, 0, 0⟩
def Cd (l : List Ac.Act) (c : Chn) : List Ac.Act := l.filter fun a => Cc c a && C7 (Do c).pub a
def CR (c : Chn) (a : Ac.Act) : Chn :=
 { c with acts := c.acts ++ [a], prev := dg a, keys := if a.kind = 18 ∨ a.kind = 0 then c.keys ++ [⟨if a.kind = 0 then 0 else ((c.acts.length + 1 : Nat) : Int), a.n, a.m⟩] else c.keys }
def C3 : Nat → List Ac.Act → Chn → Chn
 | 0, _, c => c
 | n + 1, l, c => match Cd l c with
  | [a] => C3 n l (CR c a)
  | [] => { c with fork := false }
  | _ => { c with fork := true }
def Cl (k : List Ac.Act) (id : By) : Chn :=
 match Ce (BD k id) id with
 | [a] => C3 (k.length + 1) (BD k id) (CR ⟨id, [], [], [], 0, false⟩ a)
 | [] => ⟨id, [], [], [], 0, false⟩
 | _ => ⟨id, [], [], [], 0, true⟩
structure COk (c : Chn) (N : Nat) : Prop where
 acts : ∀ a ∈ c.acts, Ac.right a = true
 len : c.acts.length ≤ N
 klen : c.keys.length ≤ N
 key : c.acts ≠ [] → c.keys ≠ []
 keys : ∀ k ∈ c.keys, (0 ≤ k.frm ∧ k.frm ≤ N) ∧ ∃ a, Ac.right a = true ∧ k.pub = a.n ∧ k.home = a.m
structure Ties where
 follows : List By
 accepts : List By
 blocks : List By
 mutes : List By
def Dj (l : List By) (x : By) : List By :=
 if l.contains x = true then l else l.takeWhile (fun y => Op.bytesLess y x) ++ x :: l.dropWhile (fun y => Op.bytesLess y x)
def BU (l : List By) (x : By) : List By := l.filter fun y => !(y == x)
def Gy (acts : List Ac.Act) : List By := if acts.any (fun a => a.kind == 6) = true then acts.map dg else []
def E6 : List By → By → Option Nat
 | [], _ => none
 | x :: l, d => if x = d then some 0 else (E6 l d).map (· + 1)
def GE (t : Ties) (acts : List Ac.Act) (i : Nat) (l : List By) : Ties :=
 let a := acts.getD i Au
 if a.kind = 7 then { t with follows := Dj t.follows a.target }
 else if a.kind = 8 then { t with accepts := Dj t.accepts a.target }
 else if a.kind = 9 then { t with accepts := BU t.accepts a.target }
 else if a.kind = 10 then { t with blocks := Dj t.blocks a.target, follows := BU t.follows a.target, accepts := BU t.accepts a.target }
 else if a.kind = 11 then { t with mutes := Dj t.mutes a.target }
 else if a.kind = 6 then match E6 l a.object with
  | none => t
  | some j => if i ≤ j then t else
   let b := acts.getD j Au
   if b.kind = 7 then { t with follows := BU t.follows b.target }
   else if b.kind = 8 then { t with accepts := BU t.accepts b.target }
   else if b.kind = 10 then { t with blocks := BU t.blocks b.target }
   else if b.kind = 11 then { t with mutes := BU t.mutes b.target }
   else t
 else t
def EE (acts : List Ac.Act) : Nat → Ties
 | 0 => ⟨[], [], [], []⟩
 | i + 1 => GE (EE acts i) acts i (Gy acts)
def Fk (c : Chn) (n : Nat) : Ties := EE c.acts (min n c.acts.length)
def EK (l : List By) (s : By) : List By :=
 if (l.dropWhile (fun y => Op.bytesLess y s)).head? = some s then l else l.takeWhile (fun y => Op.bytesLess y s) ++ s :: l.dropWhile (fun y => Op.bytesLess y s)
def BM (c : Chn) (n : Nat) : List By :=
 ((Fk c n).accepts.filter fun x => !(x == c.id) && !((Fk c n).blocks.contains x)).foldl EK []
def CB (acts : List Ac.Act) : Nat → Nat × Int
 | 0 => (0, 0)
 | i + 1 =>
  let r := CB acts i
  let a := acts.getD i Au
  if a.kind = 16 ∧ a.scope = 1 ∧ a.group = [] ∧ a.epoch = r.2 then (i, r.2 + 1) else r
def DQ (c : Chn) (n : Nat) : Nat × Bool := let r := CB c.acts (min n c.acts.length); (r.1, decide (0 < r.2))
def Bv (c : Chn) (n : Nat) : Int × List By × Bool :=
 if (DQ c n).2 = true then ((c.acts.getD (DQ c n).1 Au).epoch, (c.acts.getD (DQ c n).1 Au).to, true) else (0, [], false)
def M2 (c : Chn) (n : Nat) : Bool := !(Bv c n).2.2 || !decide ((Bv c n).2.1 = BM c n)
def hL (l : List By) : By := Sm.sha (list l)
abbrev LV : By := [115, 116, 114, 101, 97, 109]
abbrev LU : By := [116, 97, 103]
def Ft (key nonce : By) (s : By) : By := (List.range s.length).map fun i => (s.getD i 0) ^^^ ((hL [LV, key, nonce, Ag ((i / 32 : Nat) : Int)]).getD (i % 32) 0)
def L3 (key nonce data : By) : By := (hL [LU, key, nonce, data]).take 16
def GQ (key nonce plain : By) : Box := ⟨nonce, Ft key nonce plain, L3 key nonce (Ft key nonce plain)⟩
abbrev NV : By := [119, 114, 97, 112]
abbrev JW : By := [101, 112, 104]
abbrev wNonce : By := [110, 111, 110, 99, 101]
def JP (to eph shared : Int) : By := hL [NV, Ag to, Ag eph, Ag shared]
def F9 (p : Int) (seed plain : By) : Wrap :=
 let e : Nat := 1 + Sm.num (hL [JW, seed, Ag p]) % 2305843009213693949
 let eph : Int := ((AY 37 e : Nat) : Int)
 let k := JP p eph ((AY p.toNat e : Nat) : Int)
 ⟨p, eph, GQ k (hL [wNonce, k]) plain⟩
abbrev XD : By := [101, 112, 111, 99, 104]
abbrev wPost : By := [112, 111, 115, 116]
abbrev wGrant : By := [103, 114, 97, 110, 116]
def DK (k : Key) (e : Int) : By := Sm.sha (text XD ++ Ag k.secret ++ Ag 1 ++ text [] ++ Ag e)
def CF (c : Chn) (kind time : Int) : Ac.Act := { Au with author := c.id, seq := (c.acts.length : Int), prev := c.prev, kind := kind, time := time }
def GY (c : Chn) (i : Nat) : KeyAt × Bool :=
 if c.acts.length < i then (⟨0, 0, 0⟩, false) else match c.keys.reverse.find? (fun k => decide (k.frm ≤ (i : Int))) with
  | some k => (k, true)
  | none => (⟨0, 0, 0⟩, false)
def Hj (k : Key) (c : Chn) : Bool := (GY c c.acts.length).2 && k.right && decide ((GY c c.acts.length).1.pub = k.pub)
def Ky (k : Key) (c : Chn) : Bool := M2 c c.acts.length || !decide ((GY c (DQ c c.acts.length).1).1.pub = k.pub)
def Gj (k : Key) (c : Chn) (time : Int) (txt : By) : Ac.Act × Int :=
 if Hj k c = false then (Au, 10)
 else if Ky k c = true then (Au, 11)
 else
  let e := (Bv c c.acts.length).1
  let s := DK k e
  let x := text wPost ++ text s ++ Ag (c.acts.length : Int) ++ text c.prev ++ text txt
  let d := { CF c 1 time with scope := 1, epoch := e, body := GQ s (Sm.sha x) txt }
  if Ac.right d = false then (Au, 1) else if Cc c d = false then (Au, 4) else (BI k d, 0)
def ET (s : By) : Nat → List Int → List Wrap
 | _, [] => []
 | i, p :: l => F9 p (text wGrant ++ text s ++ Ag (i : Int)) s :: ET s (i + 1) l
def Iy (k : Key) (c : Chn) (ps : List Int) (time : Int) : Ac.Act :=
 let l := BM c c.acts.length
 if ps.any (fun p => decide (p < 1) || decide (2305843009213693950 < p)) = true then Au
 else if 64 < l.length then Au
 else if Hj k c = false then Au
 else
  let e := if (Bv c c.acts.length).2.2 = true then (Bv c c.acts.length).1 + 1 else (Bv c c.acts.length).1
  let a := { CF c 16 time with scope := 1, to := l, epoch := e, wraps := ET (DK k e) 0 ps }
  if Ac.right a = false then Au else BI k a
structure Wish where
 who : Int
 kind : Int
 on : Int
 whom : Int
 txt : By
 spoil : Int
def AZ (n m : Int) : Int := Sl.pickN47 n m
def DH (n : Nat) : By := if n < 10 then [UInt8.ofNat (48 + n)] else [UInt8.ofNat (48 + n / 10), UInt8.ofNat (48 + n % 10)]
def Br (who : Int) (moves : Nat) : Key := Jt ([97, 99, 116, 111, 114, 32] ++ DH (AZ who 4).toNat ++ [32] ++ DH moves)
def B9 (who : Int) : By := CA (Br who 0).pub
def BC (who me time : Int) : Ac.Act :=
 BI (Br who 0) { Au with author := B9 who, kind := 0, time := time, text := [97, 99, 116, 111, 114] ++ DH (AZ who 4).toNat, n := (Br who 0).pub, m := me }
def EH (k : List Ac.Act) : List By := (k.filter fun a => EI a.kind).map dg
def KN (k : List Ac.Act) (on : Int) : By := if EH k = [] then dg (BC 0 0 0) else (EH k).getD (AZ on (EH k).length).toNat []
def GX (c : Chn) (low high : Int) : By :=
 match c.acts.tail.reverse.find? (fun a => decide (low ≤ a.kind) && decide (a.kind ≤ high)) with
 | some a => dg a
 | none => dg (c.acts.getD 0 Au)
def FX (k : List Ac.Act) (c : Chn) (w : Wish) (a : Ac.Act) : Ac.Act :=
 if a.kind = 1 then { a with text := w.txt }
 else if a.kind = 2 ∨ a.kind = 3 then { a with text := w.txt, object := KN k w.on }
 else if a.kind = 5 ∨ a.kind = 4 then { a with object := KN k w.on }
 else if a.kind = 6 then { a with object := GX c 4 11 }
 else if a.kind = 13 then { a with object := GX c 1 3 }
 else if a.kind = 14 then { a with object := GX c 1 3, text := w.txt }
 else if a.kind = 15 then { a with group := [102, 114, 105, 101, 110, 100, 115], to := [B9 w.whom] }
 else if a.kind = 18 then { a with n := (Br w.who c.keys.length).pub, m := AZ w.whom 3 }
 else { a with target := B9 w.whom }
def D5 (k : List Ac.Act) (ids : List By) : List Int := ids.map fun i => if (Cl k i).keys = [] then 1 else (Do (Cl k i)).pub
def H9 (k : List Ac.Act) (c : Chn) (key : Key) (w : Wish) (time : Int) : Ac.Act :=
 if (Gj key c time w.txt).2 ≠ 11 then (Gj key c time w.txt).1
 else if (D5 k (BM c c.acts.length)).any (fun p => p == 1) = true then BI key { CF c 1 time with text := w.txt }
 else Iy key c (D5 k (BM c c.acts.length)) time
def D8 (w : Wish) : Int := ([1, 1, 2, 3, 5, 4, 6, 7, 8, 10, 11, 13, 14, 15, 18, -1] : List Int).getD (AZ w.kind 16).toNat 0
def Gq (k : List Ac.Act) (me time : Int) (w : Wish) : Ac.Act :=
 let c := Cl k (B9 w.who)
 if c.acts = [] then BC w.who me time
 else if D8 w < 0 then H9 k c (Br w.who (c.keys.length - 1)) w time
 else BI (Br w.who (c.keys.length - 1)) (FX k c w (CF c (D8 w) time))
def D7 (k : List Ac.Act) (me time : Int) (w : Wish) : Ac.Act :=
 let a := Gq k me time w
 let s := AZ w.spoil 12
 if s = 0 then { a with sig := { a.sig with s := AZ (IntKind.i64.wrap (a.sig.s + 1)) 1000 } }
 else if s = 1 then { a with seq := IntKind.i64.wrap (a.seq + 1) }
 else if s = 2 then { a with text := a.text ++ [120] }
 else if s = 3 then { a with author := B9 (IntKind.i64.wrap (w.who + 1)) }
 else if s = 4 then { a with prev := dg a }
 else a
def Fz (k : List Ac.Act) (me : Int) (a : Ac.Act) : Int :=
 let c := Cl k a.author
 if Ac.right a = false then 1
 else if Ix k (dg a) = true then 13
 else if a.kind = 0 then
  if a.m ≠ me then 10 else if c.acts ≠ [] ∨ c.fork = true then 13 else if CA a.n ≠ a.author then 1 else if C7 a.n a = false then 3 else 0
 else if c.acts = [] then 6
 else if c.fork = true then 5
 else if (Do c).home ≠ me ∧ (a.kind ≠ 18 ∨ a.m ≠ me) then 10
 else if Cc c a = false then 4
 else if C7 (Do c).pub a = false then 3
 else 0
def Dp (k : List Ac.Act) (w : Wish) : Int := if (Cl k (B9 w.who)).keys = [] then AZ w.whom 3 else (Do (Cl k (B9 w.who))).home
def EM : Int → List Wish → List Ac.Act → List Ac.Act → List Ac.Act
 | _, [], _, out => out
 | i, w :: l, k, out =>
  let me := Dp k w
  let a := D7 k me i w
  if Fz k me a = 0 then EM (i + 1) l (Eh k a).1 (out ++ [a]) else EM (i + 1) l k out
theorem Pg : ∀ (l : List Wish) (i : Int) (k out : List Ac.Act), (∀ a ∈ out, Ac.right a = true) → ∀ a ∈ EM i l k out, Ac.right a = true
 | [], _, _, _, h => h
 | w :: l, i, k, out, h => by
  unfold EM;simp only
  split
  ·rename_i hc
   refine Pg l _ _ _ fun a ha => ?_
   rcases List.mem_append.1 ha with ha | ha
   ·exact h a ha
   ·rw [List.mem_singleton.1 ha]
    cases hr : Ac.right (D7 k (Dp k w) i w) with
    | true => rfl
    | false =>
     unfold Fz at hc;simp [hr] at hc
  ·exact Pg l _ _ _ h
end Tp
end
section
namespace Pe
open Tryz
open Go Go.RowKit Co Sg Ac It Sl
set_option maxRecDepth 100000
set_option maxHeartbeats 4000000
abbrev EL (h : Head) : AV := .agg [.it .i64 h.server, .it .i64 h.size, .st h.root, .it .i64 h.time, .it .i64 h.sig.e, .it .i64 h.sig.s]
abbrev BY (l : List It.Entry) : AV := .sl .ro (l.map Eu)
abbrev Pc (l : List Head) : AV := .sl .ro (l.map EL)
theorem Uj (e : It.Entry) : (Da e).length ≤ 200009 := by
 unfold Da;split
 ·rename_i h
  rw [Bool.and_eq_true] at h;have h1 := Bb.1 h.1;have := Aj e.time (by omega)
  have := Zd3 e.item;rw [List.length_append];omega
 ·exact Nat.zero_le _
theorem Fa (l : List It.Entry) : Ax 50 (l.map Eu) = true := Bh 50 Eu (fun _ => rfl) _
theorem ZbM (l : List Head) : Ax 6 (l.map EL) = true := Bh 6 EL (fun _ => rfl) _
theorem Q3 (e : It.Entry) (h : Iz e.item) : AC prog 36 [Eu e] [] (.st (Cy e)) [] := by
 refine Ar [86, 85] [] func36 ?_;have hl := Uj e;have k1 := Ui e h;have k2 := Za3 (Da e) (by omega)
 refine run ?_;refine cp k1 ?_;refine run ?_;refine cp k2 ?_;refine run ?_;exact Ab
theorem Yd (l : List It.Entry) (hl : l.length ≤ 1000000) (hz : ∀ e ∈ l, Iz e.item) : AC prog 44 [BY l] [] (.st (BG l)) [] := by
 refine Ar [36, 37] [] func44 ?_;have hsz := Fa l;refine run ?_;refine AF (fun m e S => e 9 = BY l ∧ e 10 = .it .i64 (l.length : Int) ∧ ∃ (k : Nat) (acc : List By) (T : Ae), e 11 = .it .i64 (k : Int) ∧ e 3 = .sl (.own 0) (acc.map .st) ∧ S = .buf acc.length 9 1 :: T ∧ acc = (l.take k).map Cy ∧ k ≤ l.length ∧ m = l.length - k) l.length
  ⟨Ad, Ad, 0, [], [], Ad, Ad, rfl, by simp, by omega, rfl⟩ ?_
 rintro m e S ⟨s9, s10, k, acc, T, s11, s3, rfl, hacc, hk, rfl⟩
 have hT1 : ∀ y : SObj, (T ++ [y])[T.length]? = some y := fun y => by simp
 have hT2 : ∀ y z : SObj, (T ++ [y]).set T.length z = T ++ [z] := fun y z => by simp
 have hal : acc.length = k := by rw [hacc, List.length_map, List.length_take, Nat.min_eq_left hk]
 by_cases hlt : k < l.length
 ·have hg : l[k]? = some l[k] := List.getElem?_eq_getElem hlt
  have hzk := hz l[k] (List.getElem_mem hlt);have hst : acc ++ [Cy l[k]] = (l.take (k + 1)).map Cy := by rw [List.take_succ_eq_append_getElem hlt, List.map_append, ← hacc]; rfl
  generalize l[k] = x at *;have kx := Q3 x hzk;refine Aa (A8 @s9 @s10 @s11 @s3 @hg @hsz @hT1 @hT2) ?_;refine cp kx ?_;refine Aa (A4 @s9 @s10 @s11 @s3) ?_;exact Ao (l.length - (k + 1)) (by omega) ⟨Ad, Ad, k + 1, acc ++ [Cy x], _, Ad, by rw [List.map_append]; exact Ad, by rw [List.length_append]; rfl, hst, by omega, rfl⟩
 ·obtain rfl : k = l.length := by omega
  rw [List.take_length] at hacc;have kr := Ib acc (by omega) (fun x hx => by rw [hacc] at hx; rw [MS l x hx]; decide)
  rw [show BG l = Mk.root acc from by rw [hacc]; rfl]
  refine Aa (A4 @s9 @s10 @s11 @s3) ?_;refine cp kr ?_;refine Aa @s3 ?_;exact Ab
theorem EX {h : Head} : BJ h = true ↔ (0 ≤ h.server ∧ h.server ≤ 19) ∧ (0 ≤ h.size ∧ h.size ≤ 1073741824) ∧ (0 ≤ h.time ∧ h.time ≤ 1099511627776) ∧ h.root.length = 32 ∧ (0 ≤ h.sig.e ∧ h.sig.e ≤ 2305843009213693949) ∧ (0 ≤ h.sig.s ∧ h.sig.s ≤ 2305843009213693949) := by
 rw [Mr];simp only [AI, Bool.and_eq_true, Bb]
theorem L8 (h : Head) : AC prog 91 [EL h] [] (.bo (BJ h)) [] := by
 refine Ar [] [] func91 ?_;have hf : ¬ ((0 ≤ h.server ∧ h.server ≤ 19) ∧ (0 ≤ h.size ∧ h.size ≤ 1073741824) ∧ (0 ≤ h.time ∧ h.time ≤ 1099511627776) ∧ h.root.length = 32 ∧ (0 ≤ h.sig.e ∧ h.sig.e ≤ 2305843009213693949) ∧ (0 ≤ h.sig.s ∧ h.sig.s ≤ 2305843009213693949)) → BJ h = false := fun hn => Bool.eq_false_iff.2 fun r => hn (EX.1 r)
 by_cases h1 : 0 ≤ h.server
 rotate_left
 ·rw [hf (by omega)]
  refine run ?_;exact Ab
 by_cases h2 : h.server < 20
 rotate_left
 ·rw [hf (by omega)]
  refine run ?_;exact Ab
 by_cases h3 : 0 ≤ h.size
 rotate_left
 ·rw [hf (by omega)]
  refine run ?_;exact Ab
 by_cases h4 : h.size ≤ 1073741824
 rotate_left
 ·rw [hf (by omega)]
  refine run ?_;exact Ab
 by_cases h5 : 0 ≤ h.time
 rotate_left
 ·rw [hf (by omega)]
  refine run ?_;exact Ab
 by_cases h6 : h.time ≤ 1099511627776
 rotate_left
 ·rw [hf (by omega)]
  refine run ?_;exact Ab
 by_cases h7 : h.root.length = 32
 rotate_left
 ·have h7' : ¬ (h.root.length : Int) = 32 := by omega
  rw [hf (by omega)]
  refine Aa @h7' ?_;exact Ab
 have h7' : (h.root.length : Int) = 32 := by omega
 by_cases h8 : 0 ≤ h.sig.e
 rotate_left
 ·rw [hf (by omega)]
  refine Aa @h7' ?_;exact Ab
 by_cases h9 : h.sig.e ≤ 2305843009213693949
 rotate_left
 ·rw [hf (by omega)]
  refine Aa @h7' ?_;exact Ab
 by_cases h10 : 0 ≤ h.sig.s
 rotate_left
 ·rw [hf (by omega)]
  refine Aa @h7' ?_;exact Ab
 by_cases h11 : h.sig.s ≤ 2305843009213693949
 rotate_left
 ·rw [hf (by omega)]
  refine Aa @h7' ?_;exact Ab
 rw [EX.2 (by omega)]
 refine Aa @h7' ?_;exact Ab
theorem Zdu {h : Head} (h1 : h.server < 9223372036854775808) (h2 : h.size < 9223372036854775808) (h3 : h.time < 9223372036854775808) (h4 : h.root.length ≤ 1000000) : (DT h).length ≤ 1000100 := by
 have n1 := Aj h.server h1;have n2 := Aj h.size h2;have n3 := Aj h.time h3;have t1 := AG h4;have tw : (text I0).length = 5 := rfl;unfold DT;simp only [List.length_append];omega
theorem YJ (h : Head) (hr : BJ h = true) : AC prog 93 [EL h] [] (.st (DT h)) [] := by
 refine Ar [158, 152] [] func93 ?_;have hh := EX.1 hr;have n1 := Aj h.server (by omega)
 have n2 := Aj h.size (by omega)
 have n3 := Aj h.time (by omega)
 have t1 := AG (s := h.root) (by omega)
 have tw : (text I0).length = 5 := rfl;unfold DT;refine run ?_;refine cp (Dl I0 (by simp)) ?_
 refine run ?_;refine cp (Cm h.server (by omega) (by omega)) ?_
 refine run ?_;refine cp (Cm h.size (by omega) (by omega)) ?_
 refine run ?_;refine cp (Dl h.root (by omega)) ?_
 refine run ?_;refine cp (Cm h.time (by omega) (by omega)) ?_
 refine run ?_;exact Ab
theorem UT {h : Head} (hr : BJ h = true) : (DT h).length ≤ 1000100 := by
 have hh := EX.1 hr;exact Zdu (by omega) (by omega) (by omega) (by omega)
theorem N8 (p : Int) (h : Head) (hp : -9223372036854775808 ≤ p ∧ p ≤ 9223372036854775807) : AC prog 40 [.it .i64 p, EL h] [] (.bo (EC p h)) [] := by
 refine Ar [91, 93, 92] [] func40 ?_;have kr := L8 h;unfold EC;cases hr : BJ h with
 | false =>
  rw [hr] at kr;refine run ?_;refine cp kr ?_;refine run ?_;exact Ab
 | true =>
  rw [hr] at kr;have hh := EX.1 hr;have hc := UT hr;have kc := YJ h hr;have kv := JX p (DT h) h.sig (by omega) hp (by omega)
  refine run ?_;refine cp kr ?_;refine run ?_;refine cp kc ?_;refine run ?_;refine cp kv ?_;refine run ?_;exact Ab
theorem XO {l : List It.Entry} {k : Nat} (hk : k + 1 < l.length) (h : l[k + 1].time < l[k].time) : times l = false := by
 rw [Bool.eq_false_iff];intro ht;have := LZ.1 ht k hk;omega
theorem X7 (l : List It.Entry) (hl : l.length ≤ 140737488355328) : AC prog 45 [BY l] [] (.bo (times l)) [] := by
 refine Ai [] [] func45 ?_;have hsz := Fa l;refine run ?_;refine AF (fun m e S => S = [] ∧ e 0 = BY l ∧ ∃ k : Nat, e 3 = .it .i64 ((k + 1 : Nat) : Int) ∧ (∀ j (h : j + 1 < l.length), j < k → l[j].time ≤ l[j + 1].time) ∧ m = l.length - k) l.length
  ⟨rfl, Ad, 0, Ad, fun j _ h => absurd h (Nat.not_lt_zero _), rfl⟩ ?_
 rintro m e S ⟨rfl, s0, k, s3, hall, rfl⟩
 by_cases hlt : k + 1 < l.length
 rotate_left
 ·rw [LZ.2 fun j h => hall j h (by omega)]
  have hlt' : ¬ ((k + 1 : Nat) : Int) < (l.length : Int) := by omega
  refine Aa (A3 @s0 @s3 @hlt') ?_;exact Ab
 have hlt' : ((k + 1 : Nat) : Int) < (l.length : Int) := by omega
 have hg1 : l[k + 1]? = some l[k + 1] := List.getElem?_eq_getElem hlt
 have hg0 : l[k]? = some l[k] := List.getElem?_eq_getElem (by omega)
 have hc : ((k + 1 : Nat) : Int) - 1 = (k : Int) := by omega
 have hbad := XO hlt;have hgood : l[k].time ≤ l[k + 1].time → ∀ j (h : j + 1 < l.length), j < k + 1 → l[j].time ≤ l[j + 1].time := fun h j hj hjk => by
  by_cases e : j = k
  ·subst e; exact h
  ·exact hall j hj (by omega)
 generalize l[k + 1] = x at *;generalize l[k] = y at *;by_cases ht : x.time < y.time
 ·rw [hbad ht]
  refine Aa (A7 @s0 @s3 @hlt' @hg1 @hg0 @hc @hsz) ?_;exact Ab
 ·refine Aa (A7 @s0 @s3 @hlt' @hg1 @hg0 @hc @hsz) ?_
  exact Ao (l.length - (k + 1)) (by omega) ⟨rfl, Ad, k + 1, Ad, hgood (by omega), rfl⟩
end Pe
end
section
namespace Pe
open Tryz
open Go Go.RowKit Co Sg Ac It
set_option maxRecDepth 100000
set_option maxHeartbeats 4000000
abbrev Bn (l : List Int) : AV := .sl .ro (l.map (AV.it .i64))
structure InL (l : List Int) : Prop where
 len : l.length ≤ 140737488351232
 rng : ∀ i ∈ l, -9223372036854775808 ≤ i ∧ i ≤ 9223372036854775807
structure InE (e : It.Entry) : Prop where
 time : -9223372036854775808 ≤ e.time ∧ e.time ≤ 9223372036854775807
 item : InI e.item
end Pe
end
section
namespace Pe
open Tryz
open Go Go.RowKit Co Sg Ac It Sl
set_option maxRecDepth 100000
set_option maxHeartbeats 4000000
abbrev Jq (m : Mirror) : AV := .agg [.it .i64 m.server, BY m.entries, Pc m.heads]
abbrev PX (b : Batch) : AV := .agg [.it .i64 b.head.server, .it .i64 b.head.size, .st b.head.root, .it .i64 b.head.time, .it .i64 b.head.sig.e, .it .i64 b.head.sig.s, .it .i64 b.frm, BY b.entries]
structure EOk (l : List It.Entry) : Prop where
 len : l.length ≤ 1000000
 iz : ∀ e ∈ l, Iz e.item
theorem EOk.take {l : List It.Entry} (h : EOk l) (n : Nat) : EOk (l.take n) := ⟨by have := h.len; rw [List.length_take]; omega, fun e he => h.iz e (List.mem_of_mem_take he)⟩
theorem EOk.drop {l : List It.Entry} (h : EOk l) (n : Nat) : EOk (l.drop n) := ⟨by have := h.len; rw [List.length_drop]; omega, fun e he => h.iz e (List.mem_of_mem_drop he)⟩
theorem LX {e : Af} {d : Nat} {v : AV} (h : e d = v) : e = CU e d v := funext fun t => by
 unfold CU;split
 ·rename_i ht; rw [ht]; exact h
 ·rfl
theorem H6 (T : Ae) (x : SObj) : (T ++ [x])[T.length]? = some x := by simp
theorem H5 (T : Ae) (x z : SObj) : (T ++ [x]).set T.length z = T ++ [z] := by simp
theorem N3 (T : Ae) (x y : SObj) : (T ++ [x] ++ [y])[T.length + 1]? = some y := by simp
theorem N1 (T : Ae) (x y z : SObj) : (T ++ [x] ++ [y]).set (T.length + 1) z = T ++ [x] ++ [z] := by simp
theorem N2 (T : Ae) (x y : SObj) : (T ++ [x] ++ [y])[T.length]? = some x := by simp
theorem ZaG (server : Int) : AC prog 14 [.it .i64 server] [] (Jq ⟨server, [], []⟩) [] := by
 refine Ar [] [] func14 ?_;refine run ?_;exact Am
theorem ZaL (b : Batch) (hl : b.entries.length ≤ 1000000) (hf : -9223372036854775808 ≤ b.frm ∧ b.frm ≤ 9223372036854775807) : AC prog 42 [PX b] [] (.bo (IB b)) [] := by
 refine Ai [91] [] func42 ?_;have kr := L8 b.head;unfold IB;cases hr : BJ b.head with
 | false =>
  rw [hr] at kr;refine run ?_;refine cp kr ?_;refine run ?_;exact Ab
 | true =>
  rw [hr] at kr;have hh := EX.1 hr;by_cases h1 : 1 ≤ b.entries.length
  rotate_left
  ·rw [decide_eq_false h1]
   have h1' : ¬ (1 : Int) ≤ (b.entries.length : Int) := by omega
   refine run ?_;refine cp kr ?_;refine Aa @h1' ?_;exact Ab
  have h1' : (1 : Int) ≤ (b.entries.length : Int) := by omega
  by_cases h2 : b.entries.length ≤ 64
  rotate_left
  ·rw [decide_eq_true h1, decide_eq_false h2]
   have h2' : ¬ (b.entries.length : Int) ≤ 64 := by omega
   refine run ?_;refine cp kr ?_;refine Aa (an @h1' @h2') ?_;exact Ab
  have h2' : (b.entries.length : Int) ≤ 64 := by omega
  by_cases h3 : 0 ≤ b.frm
  rotate_left
  ·rw [decide_eq_true h1, decide_eq_true h2, decide_eq_false h3]
   refine run ?_;refine cp kr ?_;refine Aa (an @h1' @h2') ?_;exact Ab
  rw [decide_eq_true h1, decide_eq_true h2, decide_eq_true h3];by_cases h4 : b.frm = b.head.size - b.entries.length
  ·rw [decide_eq_true h4]
   have h4' : (b.frm == b.head.size - (b.entries.length : Int)) = true := by rw [beq_iff_eq]; exact h4
   refine run ?_;refine cp kr ?_;refine Aa (A3 @h1' @h2' @h4') ?_;exact Ab
  ·rw [decide_eq_false h4]
   have h4' : (b.frm == b.head.size - (b.entries.length : Int)) = false := FB h4;refine run ?_;refine cp kr ?_;refine Aa (A3 @h1' @h2' @h4') ?_;exact Ab
theorem ZaB {s : By} (h : s ≠ []) : (s == []) = false := Ij s [] h
theorem ZaF (ps : List Int) (e : It.Entry) (h : Iz e.item) (hp : InL ps) : AC prog 46 [Bn ps, Eu e] [] (.bo (sound ps e)) [] := by
 refine Ai [86, 52] [] func46 ?_;have k1 := Ui e h;have k2 := Q7 ps e.item h hp.rng;unfold sound;by_cases hb : Da e = []
 ·rw [hb] at k1
  rw [decide_eq_false (fun h => h hb)]
  refine run ?_;refine cp k1 ?_;refine run ?_;exact Ab
 ·rw [decide_eq_true hb]
  have hn := ZaB hb;generalize Da e = x at *;refine run ?_;refine cp k1 ?_;refine Aa @hn ?_;refine cp k2 ?_;refine run ?_;exact Ab
theorem Sx (ps : List Int) (m : Mirror) (b : Batch) (hp : InL ps) (hm : EOk m.entries) (hm9 : m.entries.length ≤ 900000) (hh : m.heads.length ≤ 1000000) (hb : EOk b.entries) (hfr : -9223372036854775808 ≤ b.frm ∧ b.frm ≤ 9223372036854775807) :
  AC prog 15 [Bn ps, Jq m, PX b] [] (.tup [Jq (Sl.take ps m b).1, .it .i64 (Sl.take ps m b).2]) [] := by
 refine Ai [42, 40, 43, 44, 45, 46] [] func15 ?_;have hml := hm.len;have hbl := hb.len;have hpl := hp.len;have kf := ZaL b hbl hfr;have hszm := Fa m.entries;have hszb := Fa b.entries;have hszh := ZbM m.heads;have hszp : Ax 1 (ps.map (AV.it .i64)) = true := Bh 1 _ (fun _ => rfl) _
 unfold Sl.take;by_cases c1 : m.server < 0
 ·rw [if_pos (.inl c1)]
  refine run ?_;exact Am
 by_cases c2 : (ps.length : Int) ≤ m.server
 ·rw [if_pos (.inr (.inl c2))]
  refine run ?_;exact Am
 cases hf : IB b with
 | false =>
  rw [hf] at kf;rw [if_pos (.inr (.inr (.inl rfl)))];refine run ?_;refine cp kf ?_;refine run ?_;exact Am
 | true =>
 rw [hf] at kf;by_cases c4 : b.head.server = m.server
 rotate_left
 ·rw [if_pos (.inr (.inr (.inr c4)))]
  have q4 : (b.head.server != m.server) = true := B6 c4;refine run ?_;refine cp kf ?_;refine Aa @q4 ?_;exact Am
 have q4 : (b.head.server != m.server) = false := B7 c4;rw [if_neg (by rintro (h | h | h | h); exact c1 h; exact c2 h; cases h; exact h c4)]
 obtain ⟨sv, hsv⟩ := Int.eq_ofNat_of_zero_le (show 0 ≤ m.server by omega)
 have hlt : sv < ps.length := by omega
 have hg : ps[m.server.toNat]? = some (ps.getD m.server.toNat 0) := by
  rw [hsv, Int.toNat_natCast, List.getD_eq_getElem?_getD, List.getElem?_eq_getElem hlt]
  rfl
 have hpr : -9223372036854775808 ≤ ps.getD m.server.toNat 0 ∧ ps.getD m.server.toNat 0 ≤ 9223372036854775807 := by
  rw [hsv, Int.toNat_natCast, List.getD_eq_getElem?_getD, List.getElem?_eq_getElem hlt]
  exact hp.rng _ (List.getElem_mem hlt)
 generalize ps.getD m.server.toNat 0 = p at *;have h0 : 0 ≤ m.server := by omega
 have hl : m.server < (ps.length : Int) := by omega
 have kv := N8 p b.head hpr;cases hv : EC p b.head with
 | false =>
  rw [hv] at kv;rw [if_pos rfl];refine run ?_;refine cp kf ?_;refine Aa (A5 @q4 @h0 @hl @hg @hszp) ?_;refine cp kv ?_;refine run ?_;exact Am
 | true =>
 rw [hv] at kv;rw [if_neg (by simp)]
 by_cases c5 : (m.entries.length : Int) < b.frm
 ·rw [if_pos c5]
  refine run ?_;refine cp kf ?_;refine Aa (A5 @q4 @h0 @hl @hg @hszp) ?_;refine cp kv ?_;refine Aa @c5 ?_;exact Am
 rw [if_neg c5];simp only [IB, Bool.and_eq_true, decide_eq_true_eq] at hf;obtain ⟨⟨⟨⟨f1, f2⟩, f3⟩, f4⟩, f5⟩ := hf;have fr := EX.1 f1;obtain ⟨f, hfe⟩ := Int.eq_ofNat_of_zero_le f4;have hfl : f ≤ m.entries.length := by omega
 unfold KY;rw [hfe, Int.toNat_natCast];refine run ?_;refine cp kf ?_;refine Aa (A5 @q4 @h0 @hl @hg @hszp) ?_;refine cp kv ?_;refine Aa (an @c5 @hfe) ?_;refine AF (fun mm e S => e 0 = Bn ps ∧ e 4 = .ptr 0 0 ∧ e 5 = .ptr 1 0 ∧ e 6 = .ptr 2 0 ∧ e 58 = BY b.entries ∧ e 59 = .it .i64 (b.entries.length : Int) ∧ ∃ (k : Nat) (T : Ae), e 60 = .it .i64 (k : Int) ∧ S = .cells [.it .i64 m.server, BY m.entries, Pc m.heads] :: .cells [.it .i64 b.head.server, .it .i64 b.head.size, .st b.head.root, .it .i64 b.head.time, .it .i64 b.head.sig.e, .it .i64 b.head.sig.s, .it .i64 (f : Int), BY b.entries] :: .cells [.it .i64 0, .sl .full [], .sl .full []] :: T ∧ k ≤ b.entries.length ∧ (∀ j (h1 : j < (m.entries.drop f).length) (h2 : j < b.entries.length), j < k → (m.entries.drop f)[j] = b.entries[j]) ∧ mm = b.entries.length - k) b.entries.length
  ⟨Ad, Ad, Ad, Ad, Ad, Ad, 0, [], Ad, rfl, by omega, fun j _ _ h => absurd h (Nat.not_lt_zero _), rfl⟩ ?_
 rintro mm e S ⟨s0, s4, s5, s6, s58, s59, k, T, s60, rfl, hk, hall, rfl⟩
 rw [LX s6];have hdl : (m.entries.drop f).length = m.entries.length - f := List.length_drop;have hc : (f : Int) + (k : Int) = ((f + k : Nat) : Int) := by omega
 by_cases hgo : k < b.entries.length ∧ f + k < m.entries.length
 focus
  obtain ⟨hgo1, hgo2⟩ := hgo;have hgb : b.entries[k]? = some b.entries[k] := List.getElem?_eq_getElem hgo1
  have hgm : m.entries[f + k]? = some m.entries[f + k] := List.getElem?_eq_getElem hgo2
  have hzb := hb.iz b.entries[k] (List.getElem_mem hgo1);have hzm := hm.iz m.entries[f + k] (List.getElem_mem hgo2);have hdk : (m.entries.drop f)[k]'(by omega) = m.entries[f + k] := List.getElem_drop
  have hgood : m.entries[f + k] = b.entries[k] → ∀ j (h1 : j < (m.entries.drop f).length) (h2 : j < b.entries.length), j < k + 1 → (m.entries.drop f)[j] = b.entries[j] := fun h j h1 h2 hj => by
   by_cases e : j = k
   ·subst e; rw [hdk, h]
   ·exact hall j h1 h2 (by omega)
  have hbad : m.entries[f + k] ≠ b.entries[k] → F3 (m.entries.drop f) b.entries = true := fun h => by
   cases hc : F3 (m.entries.drop f) b.entries with
   | true => rfl
   | false => exact absurd (by rw [← hdk]; exact Nm.1 hc k (by omega) hgo1) h
  have hlt' : ((f + k : Nat) : Int) < (m.entries.length : Int) := by omega
  generalize b.entries[k] = x at *;generalize m.entries[f + k] = y at *;have ks := KD y.item x.item hzm.lz hzb.lz;by_cases ht : y.time = x.time
  ·have qt : (y.time != x.time) = false := B7 ht
   by_cases hi : y.item = x.item
   ·rw [decide_eq_true hi] at ks
    refine Aa (an @s0 (an @s4 (an @s5 (an @s6 (an @s58 (an @s59 (an @s60 (an @hc (Aw @hlt' @hgb @hgm @hszm @hszb @H6 @H5 @N3 @N1 @N2 @qt))))))))) ?_;refine cp ks ?_;refine Aa (A7 @s0 @s4 @s5 @s6 @s58 @s59 @s60) ?_;exact Ao (b.entries.length - (k + 1)) (by omega) ⟨Ad, Ad, Ad, Ad, Ad, Ad, k + 1, _, Ad, rfl, by omega, hgood (by cases x; cases y; simp only at ht hi; rw [ht, hi]), rfl⟩
   ·rw [decide_eq_false hi] at ks
    rw [if_pos (hbad fun e => hi (by rw [e]))]
    refine Aa (an @s0 (an @s4 (an @s5 (an @s6 (an @s58 (an @s59 (an @s60 (an @hc (Aw @hlt' @hgb @hgm @hszm @hszb @H6 @H5 @N3 @N1 @N2 @qt))))))))) ?_;refine cp ks ?_;refine Aa (A7 @s0 @s4 @s5 @s6 @s58 @s59 @s60) ?_;exact Am
  ·have qt : (y.time != x.time) = true := B6 ht
   rw [if_pos (hbad fun e => ht (by rw [e]))]
   refine Aa (an @s0 (an @s4 (an @s5 (an @s6 (an @s58 (an @s59 (an @s60 (an @hc (Aw @hlt' @hgb @hgm @hszm @hszb @H6 @H5 @N3 @N1 @N2 @qt))))))))) ?_;exact Am
 have hnc : F3 (m.entries.drop f) b.entries = false := Nm.2 fun j h1 h2 => hall j h1 h2 (by omega)
 rw [hnc, if_neg (by simp)]
 have hmap : (m.entries.take f).map Eu ++ b.entries.map Eu = (m.entries.take f ++ b.entries).map Eu := List.map_append.symm;have hlen : (m.entries.take f ++ b.entries).length = f + b.entries.length := by rw [List.length_append, List.length_take]; omega
 have hok : EOk (m.entries.take f ++ b.entries) := ⟨by omega, fun e he => by
  rcases List.mem_append.1 he with h | h
  ·exact hm.iz e (List.mem_of_mem_take h)
  ·exact hb.iz e h⟩
 generalize m.entries.take f ++ b.entries = lg at *;have kro := Yd lg hok.len hok.iz;have kti := X7 lg (by have := hok.len; omega)
 have hlb : lg.length ≤ 1000000 := hok.len;have hszt := Fa (m.entries.take f);have hcase : k = b.entries.length ∨ (k < b.entries.length ∧ m.entries.length ≤ f + k) := by omega
 rcases hcase with hcase | hcase
 focus
  have hx : ¬ (k : Int) < (b.entries.length : Int) := by omega
  refine Aa (an @s0 (Aw @s4 @s5 @s6 @s58 @s59 @s60 @hx @hszm @hszb @hszt @hmap)) ?_
 rotate_left;focus
  have hgb : b.entries[k]? = some b.entries[k] := List.getElem?_eq_getElem hcase.1
  have hx : ((m.entries.length : Nat) : Int) ≤ ((f + k : Nat) : Int) := by omega
  generalize b.entries[k] = x at *;refine Aa (an @s0 (an @s4 (an @s5 (an @s6 (an @s58 (Aw @s59 @s60 @hc @hx @hgb @hszm @hszb @hszt @H6 @H5 @hmap)))))) ?_
 all_goals
  refine cp kro ?_;by_cases hr : BG lg = b.head.root
  rotate_left
  ·have qr := Ij _ _ hr
   rw [if_pos hr];refine Aa (A5 @qr @s0 @s4 @s5 @s6) ?_;exact Am
  have qr : (BG lg == b.head.root) = true := by rw [hr]; exact beq_self_eq_true _
  rw [if_neg (fun h => h hr)]
  cases htm : times lg with
  | false =>
   rw [htm] at kti;rw [if_pos rfl];refine Aa (A5 @qr @s0 @s4 @s5 @s6) ?_;refine cp kti ?_;refine Aa (A4 @s0 @s4 @s5 @s6) ?_;exact Am
  | true =>
  rw [htm] at kti;rw [if_neg (by simp)]
  refine Aa (A5 @qr @s0 @s4 @s5 @s6) ?_;refine cp kti ?_;refine Aa (A4 @s0 @s4 @s5 @s6) ?_;refine AF (fun mm e S => e 0 = Bn ps ∧ e 4 = .ptr 0 0 ∧ e 5 = .ptr 1 0 ∧ e 6 = .ptr 2 0 ∧ e 116 = BY b.entries ∧ e 117 = .it .i64 (b.entries.length : Int) ∧ (∃ L : Nat, e 12 = .sl (.own L) (lg.map Eu)) ∧ ∃ (k : Nat) (T : Ae), e 118 = .it .i64 (k : Int) ∧ S = .cells [.it .i64 m.server, BY m.entries, Pc m.heads] :: .cells [.it .i64 b.head.server, .it .i64 b.head.size, .st b.head.root, .it .i64 b.head.time, .it .i64 b.head.sig.e, .it .i64 b.head.sig.s, .it .i64 (f : Int), BY b.entries] :: .cells [.it .i64 0, .sl .full [], .sl .full []] :: T ∧ k ≤ b.entries.length ∧ (b.entries.take k).all (sound ps) = true ∧ mm = b.entries.length - k) b.entries.length
   ⟨Ad, Ad, Ad, Ad, Ad, Ad, ⟨_, Ad⟩, 0, _, Ad, rfl, by omega, rfl, rfl⟩ ?_
  clear s0 s4 s5 s6 s58 s59 s60;rintro mm e S ⟨s0, s4, s5, s6, s116, s117, ⟨L, s12⟩, k, T, s118, rfl, hk, hall, rfl⟩
  rw [LX s6, LX s12];by_cases hlt2 : k < b.entries.length
  ·have hgb : b.entries[k]? = some b.entries[k] := List.getElem?_eq_getElem hlt2
   have hzb := hb.iz b.entries[k] (List.getElem_mem hlt2);have hstep : b.entries.take (k + 1) = b.entries.take k ++ [b.entries[k]] := List.take_succ_eq_append_getElem hlt2;have hbad : sound ps b.entries[k] = false → b.entries.all (sound ps) = false := fun h => List.all_eq_false.2 ⟨b.entries[k], List.getElem_mem hlt2, by simp [h]⟩
   generalize b.entries[k] = x at *;have ks := ZaF ps x hzb hp;cases hso : sound ps x with
   | false =>
    rw [hso] at ks;rw [hbad hso, if_pos rfl];refine Aa (an @s0 (Aw @s4 @s5 @s6 @s116 @s117 @s12 @s118 @hgb @hszb @H6 @H5)) ?_;refine cp ks ?_;refine Aa (A8 @s0 @s4 @s5 @s6 @s116 @s117 @s12 @s118) ?_;exact Am
   | true =>
    rw [hso] at ks;refine Aa (an @s0 (Aw @s4 @s5 @s6 @s116 @s117 @s12 @s118 @hgb @hszb @H6 @H5)) ?_;refine cp ks ?_;refine Aa (A8 @s0 @s4 @s5 @s6 @s116 @s117 @s12 @s118) ?_;exact Ao (b.entries.length - (k + 1)) (by omega) ⟨Ad, Ad, Ad, Ad, Ad, Ad, ⟨L, Ad⟩, k + 1, _, Ad, rfl, by omega, by rw [hstep, List.all_append, hall]; simp [hso], rfl⟩
  ·obtain rfl : k = b.entries.length := by omega
   rw [List.take_length] at hall;rw [hall, if_neg (by simp)]
   have hx : ¬ ((b.entries.length : Nat) : Int) < (b.entries.length : Int) := by omega
   by_cases hsz : b.head.size ≤ (m.entries.length : Int)
   ·first
    | (exfalso; omega)
    | (rw [if_pos hsz]
       refine Aa (B1 @s0 @s4 @s5 @s6 @s116 @s117 @s12 @s118 @hx @hsz) ?_;exact Am)
   ·rw [if_neg hsz]
    have hmh : m.heads.map EL ++ [AV.agg [.it .i64 b.head.server, .it .i64 b.head.size, .st b.head.root, .it .i64 b.head.time, .it .i64 b.head.sig.e, .it .i64 b.head.sig.s]] = (m.heads ++ [b.head]).map EL := by rw [List.map_append]; rfl
    have hth : m.heads.take m.heads.length = m.heads := List.take_length;refine Aa (an @s0 (an @s4 (Aw @s5 @s6 @s116 @s117 @s12 @s118 @hx @hsz @hszh @hth @hmh))) ?_;exact Am
end Pe
end
end Go.Proofs.YtiidnoejnphocaaGreatDoor
