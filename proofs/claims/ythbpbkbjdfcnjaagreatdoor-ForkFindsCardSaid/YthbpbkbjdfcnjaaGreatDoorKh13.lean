/- Several texts in one, without what this claim does not use (tools/shake.py). -/
import Derived.Test.YthbpbkbjdfcnjaaGreatDoorKh1
import Derived.Test.YthbpbkbjdfcnjaaGreatDoorKh2
import Derived.Test.YthbpbkbjdfcnjaaGreatDoorKh3
import Derived.Test.YthbpbkbjdfcnjaaGreatDoorKh4
import Derived.Test.YthbpbkbjdfcnjaaGreatDoorKh5
import Derived.Test.YthbpbkbjdfcnjaaGreatDoorKh6
import Derived.Test.YthbpbkbjdfcnjaaGreatDoorKh7
import Derived.Test.YthbpbkbjdfcnjaaGreatDoorKh8
import Derived.Test.YthbpbkbjdfcnjaaGreatDoorKh9
import Derived.Test.YthbpbkbjdfcnjaaGreatDoorKh10
import Derived.Test.YthbpbkbjdfcnjaaGreatDoorKh11
import Derived.Test.YthbpbkbjdfcnjaaGreatDoorKh12
set_option linter.unusedSectionVars false
set_option linter.unusedVariables false
set_option linter.unusedSimpArgs false
section
namespace Go.Proofs.YthbpbkbjdfcnjaaGreatDoor.Mk
open Go Sm
abbrev By := List UInt8
def sp (n : Nat) : Nat := 2 ^ Nat.log2 (n - 1)
theorem sp_of {n j : Nat} (h1 : 2 ^ j < n) (h2 : n ≤ 2 ^ (j + 1)) : sp n = 2 ^ j := by
 unfold sp
 congr 1
 exact (Nat.log2_eq_iff (by omega)).2 ⟨by omega, by omega⟩
theorem sp_lt {n : Nat} (h : 2 ≤ n) : sp n < n := by
 have := (Nat.log2_eq_iff (n := n - 1) (k := Nat.log2 (n - 1)) (by omega)).1 rfl
 unfold sp; omega
theorem sp_pos (n : Nat) : 0 < sp n := Nat.pow_pos (by omega)
theorem sp_half {n : Nat} (h : 2 ≤ n) : n ≤ 2 * sp n := by
 have := (Nat.log2_eq_iff (n := n - 1) (k := Nat.log2 (n - 1)) (by omega)).1 rfl
 unfold sp; rw [Nat.pow_succ] at this; omega
def pre (l r : By) : By := 1 :: (l ++ r)
def node (l r : By) : By := sha (pre l r)
def leaf (s : By) : By := sha (0 :: s)
def rootF : Nat → List By → By
 | 0, l => l.headD []
 | f + 1, l => if l.length ≤ 1 then l.headD [] else node (rootF f (l.take (sp l.length))) (rootF f (l.drop (sp l.length)))
def rt (l : List By) : By := rootF l.length l
def root (l : List By) : By := if l = [] then sha [] else rt l
theorem rootF_fuel : ∀ (f f' : Nat) (l : List By), l.length ≤ f + 1 → l.length ≤ f' + 1 → rootF f l = rootF f' l
 | 0, 0, l, h, h' => rfl
 | 0, f' + 1, l, h, h' => by simp only [rootF]; rw [if_pos (by omega)]
 | f + 1, 0, l, h, h' => by simp only [rootF]; rw [if_pos (by omega)]
 | f + 1, f' + 1, l, h, h' => by
  simp only [rootF]
  by_cases h1 : l.length ≤ 1
  ·rw [if_pos h1, if_pos h1]
  ·rw [if_neg h1, if_neg h1]
   have := sp_lt (n := l.length) (by omega)
   have := sp_pos l.length
   rw [rootF_fuel f f' (l.take _) (by simp; omega) (by simp; omega), rootF_fuel f f' (l.drop _) (by simp; omega) (by simp; omega)]
theorem rt_one {l : List By} (h : l.length ≤ 1) : rt l = l.headD [] := by
 unfold rt
 cases hl : l.length with
 | zero => rfl
 | succ n => simp only [rootF]; rw [if_pos h]
theorem rt_two {l : List By} (h : 2 ≤ l.length) : rt l = node (rt (l.take (sp l.length))) (rt (l.drop (sp l.length))) := by
 have := sp_lt h
 have := sp_pos l.length
 unfold rt
 rw [rootF_fuel l.length (l.length - 1 + 1) l (by omega) (by omega)]
 simp only [rootF]
 rw [if_neg (by omega), rootF_fuel (l.length - 1) (l.take (sp l.length)).length _ (by simp; omega) (by omega), rootF_fuel (l.length - 1) (l.drop (sp l.length)).length _ (by simp; omega) (by omega)]
def pathF : Nat → List By → Nat → List By
 | 0, _, _ => []
 | f + 1, l, i => if l.length ≤ 1 then [] else
  if i < sp l.length then pathF f (l.take (sp l.length)) i ++ [rt (l.drop (sp l.length))] else pathF f (l.drop (sp l.length)) (i - sp l.length) ++ [rt (l.take (sp l.length))]
def path (l : List By) (i : Nat) : List By := pathF l.length l i
theorem pathF_fuel : ∀ (f f' : Nat) (l : List By) (i : Nat), l.length ≤ f + 1 → l.length ≤ f' + 1 → pathF f l i = pathF f' l i
 | 0, 0, l, i, h, h' => rfl
 | 0, f' + 1, l, i, h, h' => by simp only [pathF]; rw [if_pos (by omega)]
 | f + 1, 0, l, i, h, h' => by simp only [pathF]; rw [if_pos (by omega)]
 | f + 1, f' + 1, l, i, h, h' => by
  simp only [pathF]
  by_cases h1 : l.length ≤ 1
  ·rw [if_pos h1, if_pos h1]
  ·rw [if_neg h1, if_neg h1]
   have := sp_lt (n := l.length) (by omega)
   have := sp_pos l.length
   rw [pathF_fuel f f' (l.take _) _ (by simp; omega) (by simp; omega), pathF_fuel f f' (l.drop _) _ (by simp; omega) (by simp; omega)]
theorem path_one {l : List By} (h : l.length ≤ 1) (i : Nat) : path l i = [] := by
 unfold path
 cases hl : l.length with
 | zero => rfl
 | succ n => simp only [pathF]; rw [if_pos h]
theorem path_two {l : List By} (h : 2 ≤ l.length) (i : Nat) : path l i =
  if i < sp l.length then path (l.take (sp l.length)) i ++ [rt (l.drop (sp l.length))] else path (l.drop (sp l.length)) (i - sp l.length) ++ [rt (l.take (sp l.length))] := by
 have := sp_lt h
 have := sp_pos l.length
 unfold path
 rw [pathF_fuel l.length (l.length - 1 + 1) l _ (by omega) (by omega)]
 simp only [pathF]
 rw [if_neg (by omega), pathF_fuel (l.length - 1) (l.take (sp l.length)).length _ _ (by simp; omega) (by omega), pathF_fuel (l.length - 1) (l.drop (sp l.length)).length _ _ (by simp; omega) (by omega)]
def linkF : Nat → List By → Nat → Bool → List By
 | 0, l, m, w => if m = l.length then (if w then [] else [rt l]) else []
 | f + 1, l, m, w => if m = l.length then (if w then [] else [rt l]) else
  if m ≤ sp l.length then linkF f (l.take (sp l.length)) m w ++ [rt (l.drop (sp l.length))] else linkF f (l.drop (sp l.length)) (m - sp l.length) false ++ [rt (l.take (sp l.length))]
def link (l : List By) (m : Nat) (w : Bool) : List By := linkF l.length l m w
theorem linkF_fuel : ∀ (f f' : Nat) (l : List By) (m : Nat) (w : Bool), 0 < m → m ≤ l.length → l.length ≤ f + 1 → l.length ≤ f' + 1 → linkF f l m w = linkF f' l m w
 | 0, 0, l, m, w, _, _, h, h' => rfl
 | 0, f' + 1, l, m, w, h0, hm, h, h' => by
  have e : m = l.length := by omega
  simp only [linkF, if_pos e]
 | f + 1, 0, l, m, w, h0, hm, h, h' => by
  have e : m = l.length := by omega
  simp only [linkF, if_pos e]
 | f + 1, f' + 1, l, m, w, h0, hm, h, h' => by
  simp only [linkF]
  by_cases h1 : m = l.length
  ·rw [if_pos h1, if_pos h1]
  ·rw [if_neg h1, if_neg h1]
   have := sp_lt (n := l.length) (by omega)
   have := sp_pos l.length
   by_cases h2 : m ≤ sp l.length
   ·rw [if_pos h2, if_pos h2, linkF_fuel f f' (l.take _) _ _ h0 (by simp; omega) (by simp; omega) (by simp; omega)]
   ·rw [if_neg h2, if_neg h2, linkF_fuel f f' (l.drop _) _ _ (by omega) (by simp; omega) (by simp; omega) (by simp; omega)]
theorem link_all (l : List By) (w : Bool) : link l l.length w = if w then [] else [rt l] := by
 unfold link
 cases hl : l.length with
 | zero => simp only [linkF]; rw [if_pos hl.symm]
 | succ n => simp only [linkF]; rw [if_pos hl.symm]
theorem link_two {l : List By} {m : Nat} (h0 : 0 < m) (hm : m < l.length) (w : Bool) : link l m w =
  if m ≤ sp l.length then link (l.take (sp l.length)) m w ++ [rt (l.drop (sp l.length))] else link (l.drop (sp l.length)) (m - sp l.length) false ++ [rt (l.take (sp l.length))] := by
 have := sp_lt (n := l.length) (by omega)
 have := sp_pos l.length
 unfold link
 rw [linkF_fuel l.length (l.length - 1 + 1) l _ _ h0 (by omega) (by omega) (by omega)]
 simp only [linkF]
 rw [if_neg (by omega)]
 by_cases h2 : m ≤ sp l.length
 ·rw [if_pos h2, if_pos h2, linkF_fuel (l.length - 1) (l.take (sp l.length)).length _ _ _ h0 (by simp; omega) (by simp; omega) (by omega)]
 ·rw [if_neg h2, if_neg h2, linkF_fuel (l.length - 1) (l.drop (sp l.length)).length _ _ _ (by omega) (by simp; omega) (by simp; omega) (by omega)]
def flw : List By → Nat → Nat → By → By × Bool
 | [], _, n, x => if n = 1 then (x, true) else ([], false)
 | q :: r, i, n, x => if n = 1 then (x, false) else
  if i < sp n then (node (flw r i (sp n) x).1 q, (flw r i (sp n) x).2) else (node q (flw r (i - sp n) (n - sp n) x).1, (flw r (i - sp n) (n - sp n) x).2)
def climb : List By → Nat → Nat → By → By × List By × Bool
 | [], _, n, x => if n = 1 then (x, [], true) else ([], [], false)
 | q :: r, i, n, x => if n = 1 then (x, [], false) else
  if i < sp n then (if (climb r i (sp n) x).2.2 then (node (climb r i (sp n) x).1 q, (climb r i (sp n) x).2.1 ++ [pre (climb r i (sp n) x).1 q], true) else ([], [], false))
  else (if (climb r (i - sp n) (n - sp n) x).2.2 then (node q (climb r (i - sp n) (n - sp n) x).1, (climb r (i - sp n) (n - sp n) x).2.1 ++ [pre q (climb r (i - sp n) (n - sp n) x).1], true) else ([], [], false))
def roots : List By → Nat → Nat → By → Bool → By × By × Bool
 | [], m, n, old, mark => if m = n ∧ mark = true then (old, old, true) else ([], [], false)
 | q :: r, m, n, old, mark => if m = n then (if mark then (old, old, false) else if r = [] then (q, q, true) else ([], [], false)) else
  if m ≤ sp n then ((roots r m (sp n) old mark).1, node (roots r m (sp n) old mark).2.1 q, (roots r m (sp n) old mark).2.2)
  else (node q (roots r (m - sp n) (n - sp n) old false).1, node q (roots r (m - sp n) (n - sp n) old false).2.1, (roots r (m - sp n) (n - sp n) old false).2.2)
def rootsR : List By → Nat → Nat → By → Bool → By × By × List By × Bool
 | [], m, n, old, mark => if m = n ∧ mark = true then (old, old, [], true) else ([], [], [], false)
 | q :: r, m, n, old, mark => if m = n ∧ mark = true then (old, old, [], false) else if m = n then (q, q, [], decide (r = [])) else
  if m ≤ sp n then (if (rootsR r m (sp n) old mark).2.2.2 then ((rootsR r m (sp n) old mark).1, node (rootsR r m (sp n) old mark).2.1 q, (rootsR r m (sp n) old mark).2.2.1 ++ [pre (rootsR r m (sp n) old mark).2.1 q], true) else ([], [], [], false))
  else (if (rootsR r (m - sp n) (n - sp n) old false).2.2.2 then (node q (rootsR r (m - sp n) (n - sp n) old false).1, node q (rootsR r (m - sp n) (n - sp n) old false).2.1,
    (rootsR r (m - sp n) (n - sp n) old false).2.2.1 ++ [pre q (rootsR r (m - sp n) (n - sp n) old false).1, pre q (rootsR r (m - sp n) (n - sp n) old false).2.1], true) else ([], [], [], false))
def inputsF : Nat → List By → List By
 | 0, _ => []
 | f + 1, l => if l.length < 2 then [] else inputsF f (l.take (sp l.length)) ++ inputsF f (l.drop (sp l.length)) ++ [pre (rt (l.take (sp l.length))) (rt (l.drop (sp l.length)))]
def inputs (l : List By) : List By := inputsF l.length l
theorem inputsF_fuel : ∀ (f f' : Nat) (l : List By), l.length ≤ f + 1 → l.length ≤ f' + 1 → inputsF f l = inputsF f' l
 | 0, 0, l, h, h' => rfl
 | 0, f' + 1, l, h, h' => by simp only [inputsF]; rw [if_pos (by omega)]
 | f + 1, 0, l, h, h' => by simp only [inputsF]; rw [if_pos (by omega)]
 | f + 1, f' + 1, l, h, h' => by
  simp only [inputsF]
  by_cases h1 : l.length < 2
  ·rw [if_pos h1, if_pos h1]
  ·rw [if_neg h1, if_neg h1]
   have := sp_lt (n := l.length) (by omega)
   have := sp_pos l.length
   rw [inputsF_fuel f f' (l.take _) (by simp; omega) (by simp; omega), inputsF_fuel f f' (l.drop _) (by simp; omega) (by simp; omega)]
theorem inputs_one {l : List By} (h : l.length < 2) : inputs l = [] := by
 unfold inputs
 cases hl : l.length with
 | zero => rfl
 | succ n => simp only [inputsF]; rw [if_pos h]
theorem inputs_two {l : List By} (h : 2 ≤ l.length) : inputs l = inputs (l.take (sp l.length)) ++ inputs (l.drop (sp l.length)) ++ [pre (rt (l.take (sp l.length))) (rt (l.drop (sp l.length)))] := by
 have := sp_lt h
 have := sp_pos l.length
 unfold inputs
 rw [inputsF_fuel l.length (l.length - 1 + 1) l (by omega) (by omega)]
 simp only [inputsF]
 rw [if_neg (by omega), inputsF_fuel (l.length - 1) (l.take (sp l.length)).length _ (by simp; omega) (by omega), inputsF_fuel (l.length - 1) (l.drop (sp l.length)).length _ (by simp; omega) (by omega)]
end Go.Proofs.YthbpbkbjdfcnjaaGreatDoor.Mk
end
section
namespace Go.Proofs.YthbpbkbjdfcnjaaGreatDoor.Mk
open Go Sm
theorem sp_mid {n m : Nat} (h1 : sp n < m) (h2 : m ≤ n) : sp m = sp n := by
 have h0 := sp_pos n
 have := sp_half (n := n) (by omega)
 exact sp_of (j := Nat.log2 (n - 1)) h1 (by rw [Nat.pow_succ]; unfold sp at this; omega)
theorem roots_link : ∀ (k : Nat) (l : List By) (m : Nat) (old : By) (w : Bool), 0 < m → m ≤ l.length → l.length ≤ k → (w = true → old = rt (l.take m)) → roots (link l m w).reverse m l.length old w = (rt (l.take m), rt l, true) := by
 intro k
 induction k with
 | zero => intro l m old w h0 h1 h; omega
 | succ k ih =>
  intro l m old w h0 hm h hw
  by_cases h1 : m = l.length
  ·subst h1
   rw [link_all, List.take_length] at *
   cases w
   ·simp [roots]
   ·have := hw rfl
    subst this
    simp [roots]
  ·have h2 : 2 ≤ l.length := by omega
   have h3 := sp_lt h2
   have h4 := sp_pos l.length
   have ht : (l.take (sp l.length)).length = sp l.length := by simp; omega
   have hd : (l.drop (sp l.length)).length = l.length - sp l.length := List.length_drop
   rw [link_two h0 (by omega), rt_two h2]
   by_cases hs : m ≤ sp l.length
   ·rw [if_pos hs, List.reverse_append, List.reverse_singleton, List.singleton_append]
    have htt : (l.take (sp l.length)).take m = l.take m := by rw [List.take_take, Nat.min_eq_left hs]
    have := ih (l.take (sp l.length)) m old w h0 (by omega) (by omega) (by rw [htt]; exact hw)
    rw [ht, htt] at this
    simp only [roots]
    rw [if_neg h1, if_pos hs, this]
   ·rw [if_neg hs, List.reverse_append, List.reverse_singleton, List.singleton_append]
    have := ih (l.drop (sp l.length)) (m - sp l.length) old false (by omega) (by omega) (by omega) (fun h => by cases h)
    rw [hd] at this
    simp only [roots]
    rw [if_neg h1, if_neg hs, this]
    have hml : (l.take m).length = m := by simp; omega
    have e : sp m = sp l.length := sp_mid (by omega) hm
    rw [rt_two (l := l.take m) (by omega), hml, e, List.take_take, Nat.min_eq_left (by omega), List.drop_take]
abbrev Dig (l : List By) : Prop := ∀ x ∈ l, x.length = 32
theorem sha_len' (l : By) : (sha l).length = 32 := by simp [sha, S8.list, be4]
theorem rt_dig {l : List By} (h0 : 0 < l.length) (h : Dig l) : (rt l).length = 32 := by
 by_cases h2 : 2 ≤ l.length
 ·rw [rt_two h2]; exact sha_len' _
 ·obtain ⟨a, rfl⟩ := List.length_eq_one_iff.1 (by omega : l.length = 1)
  rw [rt_one (by simp)]; exact h a (by simp)
theorem Dig.take {l : List By} (h : Dig l) (k : Nat) : Dig (l.take k) := fun x hx => h x (List.mem_of_mem_take hx)
theorem Dig.drop {l : List By} (h : Dig l) (k : Nat) : Dig (l.drop k) := fun x hx => h x (List.mem_of_mem_drop hx)
theorem Dig.snoc {l : List By} {x : By} (h : Dig l) (hx : x.length = 32) : Dig (l ++ [x]) := by
 intro y hy
 rcases List.mem_append.1 hy with hy | hy
 ·exact h y hy
 ·rw [List.mem_singleton.1 hy]; exact hx
theorem link_dig : ∀ (k : Nat) (l : List By) (m : Nat) (w : Bool), 0 < m → m ≤ l.length → l.length ≤ k → Dig l → Dig (link l m w) := by
 intro k
 induction k with
 | zero => intro l m w h0 hm h hd; omega
 | succ k ih =>
  intro l m w h0 hm h hd
  by_cases h1 : m = l.length
  ·subst h1
   rw [link_all]
   split
   ·intro x hx; simp at hx
   ·intro x hx; rw [List.mem_singleton.1 hx]; exact rt_dig h0 hd
  ·have h2 : 2 ≤ l.length := by omega
   have h3 := sp_lt h2
   have h4 := sp_pos l.length
   rw [link_two h0 (by omega)]
   split
   ·exact (ih _ m w h0 (by simp; omega) (by simp; omega) (hd.take _)).snoc (rt_dig (by simp; omega) (hd.drop _))
   ·exact (ih _ _ false (by omega) (by simp; omega) (by simp; omega) (hd.drop _)).snoc (rt_dig (by simp; omega) (hd.take _))
end Go.Proofs.YthbpbkbjdfcnjaaGreatDoor.Mk
namespace Go.Proofs.YthbpbkbjdfcnjaaGreatDoor.Mk
open Go Sm
def Clash (l : List By) : Prop := ∃ x y, x ∈ l ∧ y ∈ l ∧ x ≠ y ∧ sha x = sha y
theorem Clash.mono {l l' : List By} (h : Clash l) (hs : ∀ x, x ∈ l → x ∈ l') : Clash l' := by
 obtain ⟨x, y, h1, h2, h3, h4⟩ := h
 exact ⟨x, y, hs x h1, hs y h2, h3, h4⟩
theorem pre_inj {a b c d : By} (h : pre a b = pre c d) (hl : a.length = c.length) : a = c ∧ b = d := by
 unfold pre at h
 exact List.append_inj (List.cons.inj h).2 hl
theorem node_eq {a b c d : By} {L : List By} (h : node a b = node c d) (hl : a.length = c.length) (h1 : pre a b ∈ L) (h2 : pre c d ∈ L) : (a = c ∧ b = d) ∨ Clash L := by
 by_cases he : pre a b = pre c d
 ·exact .inl (pre_inj he hl)
 ·exact .inr ⟨_, _, h1, h2, he, h⟩
theorem climb_flw : ∀ (p : List By) (i n : Nat) (x : By), (flw p i n x).2 = true → (climb p i n x).2.2 = true ∧ (climb p i n x).1 = (flw p i n x).1
 | [], i, n, x, h => by
  simp only [flw, climb] at h ⊢
  split at h
  ·rename_i hn; rw [if_pos hn, if_pos hn]; exact ⟨rfl, rfl⟩
  ·cases h
 | q :: r, i, n, x, h => by
  simp only [flw] at h
  simp only [flw, climb]
  by_cases hn : n = 1
  ·rw [if_pos hn] at h; cases h
  ·rw [if_neg hn] at h
   by_cases hi : i < sp n
   ·rw [if_pos hi] at h
    obtain ⟨h1, h2⟩ := climb_flw r i (sp n) x h
    rw [if_neg hn, if_neg hn, if_pos hi, if_pos hi, if_pos h1]
    exact ⟨rfl, by rw [h2]⟩
   ·rw [if_neg hi] at h
    obtain ⟨h1, h2⟩ := climb_flw r (i - sp n) (n - sp n) x h
    rw [if_neg hn, if_neg hn, if_neg hi, if_neg hi, if_pos h1]
    exact ⟨rfl, by rw [h2]⟩
theorem flw_dig : ∀ (p : List By) (i n : Nat) (x : By), x.length = 32 → (flw p i n x).2 = true → (flw p i n x).1.length = 32
 | [], i, n, x, hx, h => by
  simp only [flw] at h ⊢
  split at h
  ·rename_i hn; rw [if_pos hn]; exact hx
  ·cases h
 | q :: r, i, n, x, hx, h => by
  simp only [flw]
  split
  ·exact hx
  ·split
   ·exact sha_len' _
   ·exact sha_len' _
abbrev ins (p : List By) (i n : Nat) (x : By) : List By := (climb p i n x).2.1
theorem ins_left {q : By} {r : List By} {i n : Nat} {x : By} (hn : n ≠ 1) (hi : i < sp n) (h : (flw r i (sp n) x).2 = true) : ins (q :: r) i n x = ins r i (sp n) x ++ [pre (flw r i (sp n) x).1 q] := by
 obtain ⟨h1, h2⟩ := climb_flw r i (sp n) x h
 simp only [ins, climb]
 rw [if_neg hn, if_pos hi, if_pos h1, h2]
theorem ins_right {q : By} {r : List By} {i n : Nat} {x : By} (hn : n ≠ 1) (hi : ¬ i < sp n) (h : (flw r (i - sp n) (n - sp n) x).2 = true) : ins (q :: r) i n x = ins r (i - sp n) (n - sp n) x ++ [pre q (flw r (i - sp n) (n - sp n) x).1] := by
 obtain ⟨h1, h2⟩ := climb_flw r (i - sp n) (n - sp n) x h
 simp only [ins, climb]
 rw [if_neg hn, if_neg hi, if_pos h1, h2]
theorem mem_inputs_two {l : List By} (h : 2 ≤ l.length) : pre (rt (l.take (sp l.length))) (rt (l.drop (sp l.length))) ∈ inputs l := by
 rw [inputs_two h]; simp
theorem inputs_left {l : List By} (h : 2 ≤ l.length) : ∀ z, z ∈ inputs (l.take (sp l.length)) → z ∈ inputs l := by
 intro z hz; rw [inputs_two h]; simp [hz]
theorem inputs_right {l : List By} (h : 2 ≤ l.length) : ∀ z, z ∈ inputs (l.drop (sp l.length)) → z ∈ inputs l := by
 intro z hz; rw [inputs_two h]; simp [hz]
theorem Clash.cat {a b c d : List By} (h : Clash (a ++ b)) (h1 : ∀ z, z ∈ a → z ∈ c) (h2 : ∀ z, z ∈ b → z ∈ d) : Clash (c ++ d) :=
 h.mono fun z hz => by
  rcases List.mem_append.1 hz with hz | hz
  ·exact List.mem_append_left _ (h1 z hz)
  ·exact List.mem_append_right _ (h2 z hz)
theorem binds (k : Nat) : ∀ (l : List By) (p : List By) (i : Nat) (x : By), l.length ≤ k → i < l.length → Dig l → Dig p → x.length = 32 → flw p i l.length x = (rt l, true) →
  (l[i]? = some x ∧ p.reverse = path l i) ∨ Clash (inputs l ++ ins p i l.length x) := by
 induction k with
 | zero => intro l p i x hk hi; omega
 | succ k ih =>
  intro l p i x hk hi hl hp hx h
  by_cases h1 : l.length = 1
  ·left
   obtain ⟨a, rfl⟩ := List.length_eq_one_iff.1 h1
   have : i = 0 := by simp at hi; omega
   subst this
   rw [path_one (by simp)]
   rw [rt_one (by simp)] at h
   cases p with
   | nil => simp only [flw, List.length_singleton, if_true, Prod.mk.injEq, and_true] at h; simp [h]
   | cons q r => simp [flw] at h
  have h2 : 2 ≤ l.length := by omega
  have h3 := sp_lt h2
  have h4 := sp_pos l.length
  have ht : (l.take (sp l.length)).length = sp l.length := by simp; omega
  have hd : (l.drop (sp l.length)).length = l.length - sp l.length := List.length_drop
  cases p with
  | nil => simp only [flw, if_neg h1, Prod.mk.injEq] at h; cases h.2
  | cons q r =>
   have hr : Dig r := fun z hz => hp z (by simp [hz])
   rw [rt_two h2] at h
   by_cases hi' : i < sp l.length
   ·simp only [flw, if_neg h1, if_pos hi', Prod.mk.injEq] at h
    rw [ins_left h1 hi' h.2]
    rcases node_eq (L := inputs l ++ (ins r i (sp l.length) x ++ [pre (flw r i (sp l.length) x).1 q])) h.1 (by rw [flw_dig r i _ x hx h.2, rt_dig (by omega) (hl.take _)]) (by simp) (List.mem_append_left _ (mem_inputs_two h2)) with ⟨e1, e2⟩ | hc
    ·have := ih (l.take (sp l.length)) r i x (by omega) (by omega) (hl.take _) hr hx (by rw [ht]; exact Prod.ext e1 h.2)
     rw [ht] at this
     rcases this with ⟨e3, e4⟩ | hc
     ·left
      rw [List.getElem?_take_of_lt hi'] at e3
      exact ⟨e3, by rw [path_two h2, if_pos hi', List.reverse_cons, e4, e2]⟩
     ·exact .inr (hc.cat (inputs_left h2) fun z hz => by simp [hz])
    ·exact .inr hc
   ·simp only [flw, if_neg h1, if_neg hi', Prod.mk.injEq] at h
    rw [ins_right h1 hi' h.2]
    rcases node_eq (L := inputs l ++ (ins r (i - sp l.length) (l.length - sp l.length) x ++ [pre q (flw r (i - sp l.length) (l.length - sp l.length) x).1])) h.1 (by rw [hp q (by simp), rt_dig (by omega) (hl.take _)]) (by simp) (List.mem_append_left _ (mem_inputs_two h2)) with ⟨e1, e2⟩ | hc
    ·have := ih (l.drop (sp l.length)) r (i - sp l.length) x (by omega) (by omega) (hl.drop _) hr hx (by rw [hd]; exact Prod.ext e2 h.2)
     rw [hd] at this
     rcases this with ⟨e3, e4⟩ | hc
     ·left
      rw [List.getElem?_drop, show sp l.length + (i - sp l.length) = i from by omega] at e3
      exact ⟨e3, by rw [path_two h2, if_neg hi', List.reverse_cons, e4, e1]⟩
     ·exact .inr (hc.cat (inputs_right h2) fun z hz => by simp [hz])
    ·exact .inr hc
theorem rootsR_roots : ∀ (p : List By) (m n : Nat) (x : By) (w : Bool), (roots p m n x w).2.2 = true → (rootsR p m n x w).2.2.2 = true ∧ (rootsR p m n x w).1 = (roots p m n x w).1 ∧ (rootsR p m n x w).2.1 = (roots p m n x w).2.1
 | [], m, n, x, w, h => by
  simp only [roots, rootsR] at h ⊢
  split at h
  ·rename_i hn; rw [if_pos hn, if_pos hn]; exact ⟨rfl, rfl, rfl⟩
  ·cases h
 | q :: r, m, n, x, w, h => by
  simp only [roots] at h
  simp only [roots, rootsR]
  by_cases hn : m = n
  ·rw [if_pos hn] at h
   cases w
   ·by_cases hr : r = []
    ·simp [hn, hr]
    ·simp [hr] at h
   ·simp at h
  ·rw [if_neg hn] at h
   rw [if_neg hn, if_neg (fun hc => hn hc.1), if_neg hn]
   by_cases hi : m ≤ sp n
   ·rw [if_pos hi] at h
    obtain ⟨h1, h2, h3⟩ := rootsR_roots r m (sp n) x w h
    rw [if_pos hi, if_pos hi, if_pos h1]
    exact ⟨rfl, h2, by rw [h3]⟩
   ·rw [if_neg hi] at h
    obtain ⟨h1, h2, h3⟩ := rootsR_roots r (m - sp n) (n - sp n) x false h
    rw [if_neg hi, if_neg hi, if_pos h1]
    exact ⟨rfl, by rw [h2], by rw [h3]⟩
theorem roots_dig : ∀ (p : List By) (m n : Nat) (x : By) (w : Bool), x.length = 32 → Dig p → (roots p m n x w).2.2 = true → (roots p m n x w).1.length = 32 ∧ (roots p m n x w).2.1.length = 32
 | [], m, n, x, w, hx, hp, h => by
  simp only [roots] at h ⊢
  split at h
  ·rename_i hn; rw [if_pos hn]; exact ⟨hx, hx⟩
  ·cases h
 | q :: r, m, n, x, w, hx, hp, h => by
  have hr : Dig r := fun z hz => hp z (by simp [hz])
  simp only [roots] at h ⊢
  by_cases hn : m = n
  ·rw [if_pos hn] at h ⊢
   cases w
   ·by_cases hr : r = []
    ·simp [hr, hp q (by simp)]
    ·simp [hr] at h
   ·simp at h
  ·rw [if_neg hn] at h ⊢
   by_cases hi : m ≤ sp n
   ·rw [if_pos hi] at h ⊢
    exact ⟨(roots_dig r m (sp n) x w hx hr h).1, sha_len' _⟩
   ·rw [if_neg hi]
    exact ⟨sha_len' _, sha_len' _⟩
abbrev insR (p : List By) (m n : Nat) (x : By) (w : Bool) : List By := (rootsR p m n x w).2.2.1
theorem insR_left {q : By} {r : List By} {m n : Nat} {x : By} {w : Bool} (hn : m ≠ n) (hi : m ≤ sp n) (h : (roots r m (sp n) x w).2.2 = true) : insR (q :: r) m n x w = insR r m (sp n) x w ++ [pre (roots r m (sp n) x w).2.1 q] := by
 obtain ⟨h1, h2, h3⟩ := rootsR_roots r m (sp n) x w h
 simp only [insR, rootsR]
 rw [if_neg (fun hc => hn hc.1), if_neg hn, if_pos hi, if_pos h1, h3]
theorem insR_right {q : By} {r : List By} {m n : Nat} {x : By} {w : Bool} (hn : m ≠ n) (hi : ¬ m ≤ sp n) (h : (roots r (m - sp n) (n - sp n) x false).2.2 = true) : insR (q :: r) m n x w = insR r (m - sp n) (n - sp n) x false ++ [pre q (roots r (m - sp n) (n - sp n) x false).1, pre q (roots r (m - sp n) (n - sp n) x false).2.1] := by
 obtain ⟨h1, h2, h3⟩ := rootsR_roots r (m - sp n) (n - sp n) x false h
 simp only [insR, rootsR]
 rw [if_neg (fun hc => hn hc.1), if_neg hn, if_neg hi, if_pos h1, h2, h3]
end Go.Proofs.YthbpbkbjdfcnjaaGreatDoor.Mk
namespace Go.Proofs.YthbpbkbjdfcnjaaGreatDoor.Mk
open Go Sm
theorem leads (k : Nat) : ∀ (b : List By) (p : List By) (m : Nat) (old : By) (w : Bool), b.length ≤ k → 0 < m → m ≤ b.length → Dig b → Dig p → old.length = 32 → (roots p m b.length old w).2 = (rt b, true) →
  (roots p m b.length old w).1 = rt (b.take m) ∨ Clash (inputs b ++ insR p m b.length old w) := by
 induction k with
 | zero => intro b p m old w h h0 h1; omega
 | succ k ih =>
  intro b p m old w hk h0 hab hb hp ho h
  by_cases h1 : m = b.length
  ·left
   rw [h1, List.take_length]
   cases p with
   | nil =>
    simp only [roots, h1] at h ⊢
    split at h
    ·rename_i hw
     rw [if_pos hw]
     simp only [Prod.mk.injEq] at h; exact h.1
    ·simp at h
   | cons q r =>
    simp only [roots, if_true, h1] at h ⊢
    cases w
    ·by_cases hr : r = []
     ·simp [hr] at h ⊢; exact h
     ·simp [hr] at h
    ·simp at h
  have h2 : 2 ≤ b.length := by omega
  have h3 := sp_lt h2
  have h4 := sp_pos b.length
  have ht : (b.take (sp b.length)).length = sp b.length := by simp; omega
  have hd : (b.drop (sp b.length)).length = b.length - sp b.length := List.length_drop
  have mb := mem_inputs_two h2
  have lb := inputs_left h2
  have rb := inputs_right h2
  cases p with
  | nil => simp only [roots] at h; rw [if_neg (fun hc => h1 hc.1)] at h; simp at h
  | cons q r =>
   have hr : Dig r := fun z hz => hp z (by simp [hz])
   rw [rt_two h2] at h
   by_cases hi : m ≤ sp b.length
   ·simp only [roots, if_neg h1, if_pos hi, Prod.mk.injEq] at h
    obtain ⟨e1, e2⟩ := h
    rw [insR_left h1 hi e2]
    have e0 : (roots (q :: r) m b.length old w).1 = (roots r m (sp b.length) old w).1 := by simp only [roots, if_neg h1, if_pos hi]
    rw [e0]
    rcases node_eq (L := inputs b ++ (insR r m (sp b.length) old w ++ [pre (roots r m (sp b.length) old w).2.1 q])) e1 (by rw [(roots_dig r _ _ old w ho hr e2).2, rt_dig (by omega) (hb.take _)]) (by simp) (List.mem_append_left _ mb) with ⟨e3, e4⟩ | hc
    ·have := ih (b.take (sp b.length)) r m old w (by omega) h0 (by omega) (hb.take _) hr ho (by rw [ht]; exact Prod.ext e3 e2)
     rw [ht] at this
     rcases this with e5 | hc
     ·left
      rw [List.take_take, Nat.min_eq_left hi] at e5
      exact e5
     ·exact .inr (hc.cat (fun z hz => lb z hz) fun z hz => by simp [hz])
    ·exact .inr hc
   ·simp only [roots, if_neg h1, if_neg hi, Prod.mk.injEq] at h
    obtain ⟨e1, e2⟩ := h
    rw [insR_right h1 hi e2]
    have e0 : (roots (q :: r) m b.length old w).1 = node q (roots r (m - sp b.length) (b.length - sp b.length) old false).1 := by simp only [roots, if_neg h1, if_neg hi]
    rw [e0]
    have hm2 : 2 ≤ (b.take m).length := by rw [List.length_take]; omega
    have hml : (b.take m).length = m := by rw [List.length_take]; omega
    have em : sp m = sp b.length := sp_mid (by omega) hab
    generalize hL : inputs b ++ (insR r (m - sp b.length) (b.length - sp b.length) old false ++ [pre q (roots r (m - sp b.length) (b.length - sp b.length) old false).1, pre q (roots r (m - sp b.length) (b.length - sp b.length) old false).2.1]) = L
    rcases node_eq (L := L) e1 (by rw [hp q (by simp), rt_dig (by omega) (hb.take _)]) (by rw [← hL]; simp) (by rw [← hL]; exact List.mem_append_left _ mb) with ⟨e5, e6⟩ | hc
    ·have := ih (b.drop (sp b.length)) r (m - sp b.length) old false (by omega) (by omega) (by omega) (hb.drop _) hr ho (by rw [hd]; exact Prod.ext e6 e2)
     rw [hd] at this
     rcases this with e8 | hc
     ·left
      rw [rt_two hm2, hml, em, List.take_take, Nat.min_eq_left (by omega), e5, e8, List.drop_take]
     ·right
      rw [← hL]
      exact hc.cat (fun z hz => rb z hz) fun z hz => by simp [hz]
    ·exact .inr hc
end Go.Proofs.YthbpbkbjdfcnjaaGreatDoor.Mk
end
section
namespace Go.Proofs.YthbpbkbjdfcnjaaGreatDoor.Sl
open Go Co Sg Ac It
structure Head where
 server : Int
 size : Int
 root : By
 time : Int
 sig : Sig
 deriving DecidableEq
def head0 : Head := ⟨0, 0, [], 0, sig0⟩
def rightH (h : Head) : Bool := wi h.server 0 19 && wi h.size 0 1073741824 && wi h.time 0 1099511627776 && dig h.root && sigR h.sig
abbrev wHead : By := [104, 101, 97, 100]
def coreH (h : Head) : By := text wHead ++ numI h.server ++ numI h.size ++ text h.root ++ numI h.time
def verifyH (p : Int) (h : Head) : Bool := rightH h && verify p (coreH h) h.sig
def headB (h : Head) : By := if rightH h then coreH h ++ numI h.sig.e ++ numI h.sig.s else []
def rHead (x : R) : Head × R :=
 let server := rNum x
 let size := rNum server.2
 let root := size.2.text
 let time := rNum root.2
 let s := rSig time.2
 (⟨server.1, size.1, root.1, time.1, s.1⟩, s.2)
def readHead (s : By) : Head × Bool :=
 let n := R.text ⟨s, false⟩
 let h := rHead n.2
 if n.1 = wHead ∧ h.2.done = true ∧ rightH h.1 = true ∧ headB h.1 = s then (h.1, true) else (head0, false)
theorem rightH_iff {h : Head} : rightH h = true ↔ (0 ≤ h.server ∧ h.server ≤ 19) ∧ (0 ≤ h.size ∧ h.size ≤ 1073741824) ∧ (0 ≤ h.time ∧ h.time ≤ 1099511627776) ∧ h.root.length = 32 ∧ sigR h.sig = true := by
 simp only [rightH, Bool.and_eq_true, wi_iff, dig, decide_eq_true_eq, and_assoc]
theorem rHead_back {h : Head} (hr : rightH h = true) (r : By) : rHead ⟨numI h.server ++ (numI h.size ++ (text h.root ++ (numI h.time ++ (numI h.sig.e ++ (numI h.sig.s ++ r))))), false⟩ = (h, ⟨r, false⟩) := by
 obtain ⟨h1, h2, h3, h4, h5⟩ := rightH_iff.1 hr
 unfold rHead
 simp only [rNum_back h.server _ h1.1 (by omega), rNum_back h.size _ h2.1 (by omega), text_back h.root _ (by omega), rNum_back h.time _ h3.1 (by omega), rSig_back h.sig r h5]
theorem readHead_back {h : Head} (hr : rightH h = true) : readHead (headB h) = (h, true) := by
 have hb : headB h = text wHead ++ (numI h.server ++ (numI h.size ++ (text h.root ++ (numI h.time ++ (numI h.sig.e ++ (numI h.sig.s ++ [])))))) := by
  unfold headB coreH
  rw [if_pos hr]
  simp only [List.append_assoc, List.append_nil]
 have ht : R.text ⟨headB h, false⟩ = (wHead, ⟨numI h.server ++ (numI h.size ++ (text h.root ++ (numI h.time ++ (numI h.sig.e ++ (numI h.sig.s ++ []))))), false⟩) := by
  rw [hb]; exact text_back wHead _ (by decide)
 unfold readHead
 simp only [ht, rHead_back hr]
 rw [if_pos ⟨trivial, rfl, hr, trivial⟩]
def leafE (e : It.Entry) : By := Mk.leaf (entryB e)
def rootE (l : List It.Entry) : By := Mk.root (l.map leafE)
theorem leafE_len (e : It.Entry) : (leafE e).length = 32 := Mk.sha_len' _
theorem leaves_dig (l : List It.Entry) : Mk.Dig (l.map leafE) := fun x hx => by
 obtain ⟨e, _, rfl⟩ := List.mem_map.1 hx
 exact leafE_len e
theorem root_len {l : List By} (h : Mk.Dig l) : (Mk.root l).length = 32 := by
 unfold Mk.root
 split
 ·exact Mk.sha_len' _
 ·rename_i h0
  exact Mk.rt_dig (List.length_pos_iff.2 h0) h
theorem rootE_len (l : List It.Entry) : (rootE l).length = 32 := root_len (leaves_dig l)
def mkHead (k : Key) (server : Int) (l : List It.Entry) (time : Int) : Head :=
 if k.right then
  let h : Head := ⟨server, l.length, rootE l, time, sig0⟩
  if rightH h then { h with sig := sign k (coreH h) } else head0
 else head0
theorem sig_sigR (k : Key) (m : By) : sigR (sign k m) = true := by
 obtain ⟨h1, h2, h3, h4⟩ := sign_range k m
 simp only [sigR, wi, Bool.and_eq_true, decide_eq_true_eq]
 omega
theorem right_sig {h : Head} (hr : rightH h = true) {s : Sig} (hs : sigR s = true) : rightH { h with sig := s } = true := by
 obtain ⟨h1, h2, h3, h4, _⟩ := rightH_iff.1 hr
 exact rightH_iff.2 ⟨h1, h2, h3, h4, hs⟩
theorem mkHead_right {k : Key} {server : Int} {l : List It.Entry} {time : Int} (hk : k.right = true) (hs : 0 ≤ server ∧ server ≤ 19) (hl : l.length ≤ 1073741824) (ht : 0 ≤ time ∧ time ≤ 1099511627776) :
  mkHead k server l time = ⟨server, l.length, rootE l, time, sign k (coreH ⟨server, l.length, rootE l, time, sig0⟩)⟩ ∧ rightH (mkHead k server l time) = true ∧ verifyH k.pub (mkHead k server l time) = true := by
 have h0 : rightH ⟨server, l.length, rootE l, time, sig0⟩ = true := rightH_iff.2 ⟨hs, by simp only; omega, ht, rootE_len l, rfl⟩
 have e : mkHead k server l time = ⟨server, l.length, rootE l, time, sign k (coreH ⟨server, l.length, rootE l, time, sig0⟩)⟩ := by
  unfold mkHead
  rw [if_pos hk]
  simp only
  rw [if_pos h0]
 rw [e]
 have h1 := right_sig h0 (sig_sigR k (coreH ⟨server, l.length, rootE l, time, sig0⟩))
 refine ⟨rfl, h1, ?_⟩
 unfold verifyH
 rw [show rightH ⟨server, l.length, rootE l, time, sign k (coreH ⟨server, l.length, rootE l, time, sig0⟩)⟩ = true from h1]
 exact verify_sign hk _
theorem mkHead_verify {k : Key} {server : Int} {l : List It.Entry} {time : Int} (h : rightH (mkHead k server l time) = true) : k.right = true ∧ (0 ≤ server ∧ server ≤ 19) ∧ l.length ≤ 1073741824 ∧ (0 ≤ time ∧ time ≤ 1099511627776) := by
 unfold mkHead at h
 split at h
 ·rename_i hk
  simp only at h
  split at h
  ·rename_i hr
   obtain ⟨h1, h2, h3, _⟩ := rightH_iff.1 hr
   simp only at h1 h2 h3
   exact ⟨hk, h1, by omega, h3⟩
  ·exact absurd h (by decide)
 ·exact absurd h (by decide)
def times : List It.Entry → Bool
 | a :: b :: r => decide (a.time ≤ b.time) && times (b :: r)
 | _ => true
theorem times_iff : ∀ {l : List It.Entry}, times l = true ↔ ∀ j (h : j + 1 < l.length), l[j].time ≤ l[j + 1].time
 | [] => by simp [times]
 | [a] => by simp [times]
 | a :: b :: r => by
  rw [times, Bool.and_eq_true, decide_eq_true_eq, times_iff (l := b :: r)]
  constructor
  ·rintro ⟨h1, h2⟩ j h
   cases j with
   | zero => exact h1
   | succ j => exact h2 j (by simpa using h)
  ·intro h
   exact ⟨h 0 (by simp), fun j hj => h (j + 1) (by simpa using hj)⟩
theorem times_take {l : List It.Entry} (h : times l = true) (n : Nat) : times (l.take n) = true := by
 rw [times_iff] at h ⊢
 intro j hj
 rw [List.length_take] at hj
 rw [List.getElem_take, List.getElem_take]
 exact h j (by omega)
structure Mirror where
 server : Int
 entries : List It.Entry
 heads : List Head
 deriving DecidableEq
structure Batch where
 head : Head
 frm : Int
 entries : List It.Entry
 deriving DecidableEq
def mirror0 : Mirror := ⟨0, [], []⟩
def formed (b : Batch) : Bool := rightH b.head && decide (1 ≤ b.entries.length) && decide (b.entries.length ≤ 64) && decide (0 ≤ b.frm) && decide (b.frm = b.head.size - b.entries.length)
def sound (ps : List Int) (e : It.Entry) : Bool := decide (entryB e ≠ []) && signed ps e.item
def clash : List It.Entry → List It.Entry → Bool
 | a :: l, b :: m => decide (a ≠ b) || clash l m
 | _, _ => false
def logOf (m : Mirror) (b : Batch) : List It.Entry := m.entries.take b.frm.toNat ++ b.entries
def take (ps : List Int) (m : Mirror) (b : Batch) : Mirror × Int :=
 if m.server < 0 ∨ ps.length ≤ m.server ∨ formed b = false ∨ b.head.server ≠ m.server then (mirror0, 1)
 else if verifyH (ps.getD m.server.toNat 0) b.head = false then (mirror0, 3)
 else if m.entries.length < b.frm then (mirror0, 12)
 else if clash (m.entries.drop b.frm.toNat) b.entries = true then (mirror0, 5)
 else if rootE (logOf m b) ≠ b.head.root then (mirror0, 17)
 else if times (logOf m b) = false then (mirror0, 2)
 else if b.entries.all (sound ps) = false then (mirror0, 2)
 else if b.head.size ≤ m.entries.length then (m, 0)
 else (⟨m.server, logOf m b, m.heads ++ [b.head]⟩, 0)
def headsOk (p : Int) (m : Mirror) : Int → List Head → Bool
 | last, [] => decide (last = m.entries.length)
 | last, h :: hs => decide (h.server = m.server) && verifyH p h && decide (last < h.size) && decide (h.size ≤ m.entries.length) && decide (h.root = rootE (m.entries.take h.size.toNat)) && headsOk p m h.size hs
def rightM (ps : List Int) (m : Mirror) : Bool :=
 decide (0 ≤ m.server) && decide (m.server < ps.length) && times m.entries && m.entries.all (sound ps) && headsOk (ps.getD m.server.toNat 0) m 0 m.heads
end Go.Proofs.YthbpbkbjdfcnjaaGreatDoor.Sl
namespace Go.Proofs.YthbpbkbjdfcnjaaGreatDoor.Sl
open Go Co Sg Ac It
structure Honest (ps : List Int) (l : List It.Entry) : Prop where
 times : times l = true
 sound : l.all (sound ps) = true
theorem Honest.take {ps : List Int} {l : List It.Entry} (h : Honest ps l) (n : Nat) : Honest ps (l.take n) :=
 ⟨times_take h.times n, List.all_eq_true.2 fun x hx => List.all_eq_true.1 h.sound x (List.mem_of_mem_take hx)⟩
theorem sound_iff {ps : List Int} {e : It.Entry} : sound ps e = true ↔ isTime e.time = true ∧ right e.item = true ∧ signed ps e.item = true := by
 unfold sound
 rw [Bool.and_eq_true, decide_eq_true_eq, entryB_ne, and_assoc]
theorem Honest.time {ps : List Int} {l : List It.Entry} (h : Honest ps l) {j : Nat} (hj : j < l.length) : 0 ≤ l[j].time ∧ l[j].time ≤ 1099511627776 :=
 wi_iff.1 (sound_iff.1 (List.all_eq_true.1 h.sound _ (List.getElem_mem hj))).1
structure Good (ps : List Int) (server : Int) (k : Key) (l : List It.Entry) : Prop where
 s0 : 0 ≤ server
 s1 : server < ps.length
 s2 : ps.length ≤ 20
 key : ps.getD server.toNat 0 = k.pub
 right : k.right = true
 honest : Honest ps l
 len : l.length ≤ 80
structure Mir (ps : List Int) (server : Int) (l : List It.Entry) (m : Mirror) (n : Nat) : Prop where
 server : m.server = server
 le : n ≤ l.length
 entries : m.entries = l.take n
 right : rightM ps m = true
theorem Mir.len {ps : List Int} {server : Int} {l : List It.Entry} {m : Mirror} {n : Nat} (h : Mir ps server l m n) : m.entries.length = n := by
 rw [h.entries, List.length_take, Nat.min_eq_left h.le]
end Go.Proofs.YthbpbkbjdfcnjaaGreatDoor.Sl
end
section
namespace Go.Proofs.YthbpbkbjdfcnjaaGreatDoor.Pe
open Go Sm Mk
set_option maxRecDepth 100000
abbrev slf (l : List By) : AV := .sl .full (l.map .st)
theorem mkDigest_c (l : List UInt8) : AC Tryz.prog 135 [.st l] [] (.bo ((l.length : Int) == 32)) [] := by
 refine AC.enter [] [] Tryz.func135 rfl (by decide) (by decide) (Nat.le_of_ble_eq_true rfl) (by kernel_rfl) ?_; simp only [eraseC, eraseO, List.map_cons, List.map_nil, List.map_toArray, List.getElem?_toArray, List.getElem?_cons_zero, List.getElem?_cons_succ, Option.bind_some, Option.bind_none, List.append_eq, List.cons_append, List.nil_append]
 refine run ?_
 exact ends_ret0 (by rfl) (by rfl) (by rfl)
theorem areDigests_c (l : List By) (hl : l.length ≤ 1000000) : AC Tryz.prog 136 [sls l] [] (.bo (l.all fun s => (s.length : Int) == 32)) [] := by
 refine AC.enter [135] [] Tryz.func136 rfl (by decide) (by decide) (Nat.le_of_ble_eq_true rfl) (by kernel_rfl) ?_; simp only [eraseC, eraseO, List.map_cons, List.map_nil, List.map_toArray, List.getElem?_toArray, List.getElem?_cons_zero, List.getElem?_cons_succ, Option.bind_some, Option.bind_none, List.append_eq, List.cons_append, List.nil_append]
 refine run ?_
 refine loop_mk (fun m e S => S = [] ∧ e 5 = sls l ∧ e 6 = .it .i64 (l.length : Int) ∧ ∃ k, e 7 = .it .i64 ((k : Nat) : Int) ∧ k ≤ l.length ∧ (l.take k).all (fun s => (s.length : Int) == 32) = true ∧ m = l.length - k) l.length ⟨rfl, (by first | rfl | (simp only [↓upd_apply, ↓put_some, ↓reduceIte, Nat.reduceEqDiff, ↓argEnv_zero, ↓argEnv_succ, *]; done)), by simp [↓upd_apply], 0, (by first | rfl | (simp only [↓upd_apply, ↓put_some, ↓reduceIte, Nat.reduceEqDiff, ↓argEnv_zero, ↓argEnv_succ, *]; done)), by omega, rfl, rfl⟩ ?_
 rintro m e S ⟨rfl, h5, h6, k, h7, hk, hall, rfl⟩
 refine runf (an @h5 (an @h6 @h7)) ?_
 refine iteP_mk (fun hc => ?_) (fun hc => ?_)
 ·have hlt : k < l.length := by have := of_decide_eq_true hc; omega
  have hg : l[k]? = some l[k] := List.getElem?_eq_getElem hlt
  refine runf (an @h5 (an @h6 (an @h7 @hg))) ?_
  refine call_pure (mkDigest_c l[k]) (by rfl) (by rfl) (by rfl) ?_
  refine runf (an @h5 (an @h6 (an @h7 @hg))) ?_
  refine iteP_mk (fun hd => ?_) (fun hd => ?_)
  ·refine runf (an @h5 (an @h6 @h7)) ?_
   have : (l.all fun s => (s.length : Int) == 32) = false := by
    rw [List.all_eq_false]
    exact ⟨l[k], List.getElem_mem hlt, by simpa using hd⟩
   rw [this]
   exact ends_ret0 (by rfl) (by rfl) (by rfl)
  ·refine runf (an @h5 (an @h6 @h7)) ?_
   exact round_mk (l.length - (k + 1)) (by omega) ⟨rfl, (by first | rfl | (simp only [↓upd_apply, ↓put_some, ↓reduceIte, Nat.reduceEqDiff, ↓argEnv_zero, ↓argEnv_succ, *]; done)), (by first | rfl | (simp only [↓upd_apply, ↓put_some, ↓reduceIte, Nat.reduceEqDiff, ↓argEnv_zero, ↓argEnv_succ, *]; done)), k + 1, (by first | rfl | (simp only [↓upd_apply, ↓put_some, ↓reduceIte, Nat.reduceEqDiff, ↓argEnv_zero, ↓argEnv_succ, *]; done)), by omega, by rw [List.take_succ_eq_append_getElem hlt, List.all_append, hall]; simpa using hd, rfl⟩
 ·have hge : k = l.length := by have := of_decide_eq_false hc; omega
  refine runf (an @h5 (an @h6 @h7)) ?_
  subst hge
  rw [List.take_length] at hall
  rw [hall]
  exact ends_ret0 (by rfl) (by rfl) (by rfl)
theorem leaf_c (l : List UInt8) (h : l.length ≤ 1000000) : AC Tryz.prog 107 [.st l] [] (.st (leaf l)) [] := by
 refine AC.enter [108] [] Tryz.func107 rfl (by decide) (by decide) (Nat.le_of_ble_eq_true rfl) (by kernel_rfl) ?_; simp only [eraseC, eraseO, List.map_cons, List.map_nil, List.map_toArray, List.getElem?_toArray, List.getElem?_cons_zero, List.getElem?_cons_succ, Option.bind_some, Option.bind_none, List.append_eq, List.cons_append, List.nil_append]
 refine run ?_
 refine call_pure (sha_c (0 :: l) (by simp; omega)) (by rfl) (by rfl) (by rfl) ?_
 refine run ?_
 exact ends_ret0 (by rfl) (by rfl) (by rfl)
theorem node_c (l r : List UInt8) (h : l.length ≤ 1000000) (h' : r.length ≤ 1000000) : AC Tryz.prog 111 [.st l, .st r] [] (.st (node l r)) [] := by
 refine AC.enter [108] [] Tryz.func111 rfl (by decide) (by decide) (Nat.le_of_ble_eq_true rfl) (by kernel_rfl) ?_; simp only [eraseC, eraseO, List.map_cons, List.map_nil, List.map_toArray, List.getElem?_toArray, List.getElem?_cons_zero, List.getElem?_cons_succ, Option.bind_some, Option.bind_none, List.append_eq, List.cons_append, List.nil_append]
 refine run ?_
 refine call_pure (sha_c (1 :: (l ++ r)) (by simp; omega)) (by rfl) (by rfl) (by rfl) ?_
 refine run ?_
 exact ends_ret0 (by rfl) (by rfl) (by rfl)
theorem sp_pow {n : Nat} (h : 2 ≤ n) : 2 ^ (blen (n - 1) - 1) = sp n := by
 unfold blen sp
 rw [if_neg (by omega)]
 rfl
theorem split_c (n : Nat) (h : 2 ≤ n) (h' : n < 9223372036854775808) : AC Tryz.prog 166 [.it .i64 n] [] (.it .i64 (sp n)) [] := by
 refine AC.enter [152] [] Tryz.func166 rfl (by decide) (by decide) (Nat.le_of_ble_eq_true rfl) (by kernel_rfl) ?_; simp only [eraseC, eraseO, List.map_cons, List.map_nil, List.map_toArray, List.getElem?_toArray, List.getElem?_cons_zero, List.getElem?_cons_succ, Option.bind_some, Option.bind_none, List.append_eq, List.cons_append, List.nil_append]
 have hu : IntKind.u64.wrap ((n : Int) - 1) = ((n - 1 : Nat) : Int) := by
  rw [show (n : Int) - 1 = ((n - 1 : Nat) : Int) from by omega, wrap64n]
  simp; omega
 refine runf @hu ?_
 refine call_pure (len64_c (n - 1) (by omega)) (by rfl) (by rfl) (by rfl) ?_
 have hb := blen_le (n - 1)
 have hs : aShl .i64 1 ((blen (n - 1) : Int) - 1) = some (.it .i64 (sp n : Int)) := by
  have h1 := sp_lt h
  have h2 := sp_pow h
  have h3 : 0 < blen (n - 1) := by unfold blen; rw [if_neg (by omega)]; omega
  have h4 : blen (n - 1) ≤ 63 := by
   unfold blen
   rw [if_neg (by omega)]
   have := (Nat.log2_lt (n := n - 1) (k := 63) (by omega)).2 (by omega)
   omega
  unfold aShl
  rw [if_pos (by omega)]
  congr 2
  rw [show ((blen (n - 1) : Int) - 1).toNat = blen (n - 1) - 1 from by omega, show min (blen (n - 1) - 1) IntKind.i64.bits = blen (n - 1) - 1 from Nat.min_eq_left (by show _ ≤ 64; omega)]
  rw [show (1 : Int) * 2 ^ (blen (n - 1) - 1) = ((2 ^ (blen (n - 1) - 1) : Nat) : Int) from by push_cast; omega, h2]
  exact wrap64 (by omega) (by omega)
 refine runf @hs ?_
 exact ends_ret0 (by rfl) (by rfl) (by rfl)
theorem halves_c (l : List By) (h : 2 ≤ l.length) (h' : l.length ≤ 1000000) : AC Tryz.prog 110 [sls l] [] (.tup [slf (l.take (sp l.length)), slf (l.drop (sp l.length))]) [] := by
 refine AC.enter [166] [] Tryz.func110 rfl (by decide) (by decide) (Nat.le_of_ble_eq_true rfl) (by kernel_rfl) ?_; simp only [eraseC, eraseO, List.map_cons, List.map_nil, List.map_toArray, List.getElem?_toArray, List.getElem?_cons_zero, List.getElem?_cons_succ, Option.bind_some, Option.bind_none, List.append_eq, List.cons_append, List.nil_append]
 refine run ?_
 refine call_pure (split_c l.length h (by omega)) (by rfl) (by rfl) (by rfl) ?_
 have h1 := sp_lt h
 have h2 := sp_pos l.length
 refine run ?_
 refine ends_ret0 (by rfl) (by rfl) ?_
 simp only [resV, aRes, ↓upd_apply, ↓put_some, ↓reduceIte, Nat.reduceEqDiff, ↓argEnv_zero, ↓argEnv_succ, Option.map_some, List.take_length, List.drop_zero, AV.wk, AV.wk2, AV.wk1, List.map_cons, List.map_nil]
theorem sha_len (l : List UInt8) : (sha l).length = 32 := by
 simp [sha, S8.list, be4]
def box (f : FuncId) : SObj := .cells [.fn (.func f) [] [.ptr 0 0]]
theorem boxR {P : Program} {f g : FuncId} {l : List By} {s : By} (h : AC P f [sls l, .ptr 0 0] [box g] (.st s) [box g]) (R : Store) : AC P f [sls l, .ptr 0 0] ([box g] ++ R) (.st s) ([box g] ++ R) := AC.at1 (T := [box g] ++ R) h 0 rfl rfl rfl rfl rfl
theorem rt_len {l : List By} (h : ∀ x ∈ l, x.length ≤ 1000000) : (rt l).length ≤ 1000000 := by
 by_cases h2 : 2 ≤ l.length
 ·rw [rt_two h2, node, sha_len]; omega
 ·rw [rt_one (by omega)]
  cases l with
  | nil => simp
  | cons a l => exact h a (by simp)
theorem root1_c (k : Nat) : ∀ (l : List By), l.length ≤ k → 1 ≤ l.length → l.length ≤ 1000000 → (∀ x ∈ l, x.length ≤ 1000000) →
  AC Tryz.prog 109 [sls l, .ptr 0 0] [box 109] (.st (rt l)) [box 109] := by
 induction k with
 | zero => intro l h1 h2; omega
 | succ k ih =>
  intro l hk h1 hl hx
  refine AC.enter [110, 111] [1000017, 1000020] Tryz.func109 rfl (by decide) (by decide) (Nat.le_of_ble_eq_true rfl) (by kernel_rfl) ?_; simp only [eraseC, eraseO, List.map_cons, List.map_nil, List.map_toArray, List.getElem?_toArray, List.getElem?_cons_zero, List.getElem?_cons_succ, Option.bind_some, Option.bind_none, List.append_eq, List.cons_append, List.nil_append]
  refine run ?_
  refine iteP_mk (fun hc => ?_) (fun hc => ?_)
  ·have hc : l.length = 1 := by simp at hc; omega
   obtain ⟨a, rfl⟩ := List.length_eq_one_iff.1 hc
   refine run ?_
   exact ends_ret (κ := [0]) (by rfl) (subOk_one 0 (by rfl) (by rfl)) (by rfl) (by rfl) (by rfl)
  ·have hc : l.length ≠ 1 := by simp at hc; omega
   have h2 : 2 ≤ l.length := by omega
   have h3 := sp_lt h2
   have h4 := sp_pos l.length
   refine run ?_
   refine call_pure (halves_c l h2 hl) (by rfl) (by rfl) (by rfl) ?_
   refine runf @box.eq_1 ?_
   refine call_mk ⟨boxR (ih (l.take (sp l.length)) (by simp; omega) (by simp; omega) (by simp; omega) (fun x hx' => hx x (List.mem_of_mem_take hx'))), rfl⟩ ?_
   refine runf @box.eq_1 ?_
   refine call_mk ⟨boxR (ih (l.drop (sp l.length)) (by simp; omega) (by simp; omega) (by simp; omega) (fun x hx' => hx x (List.mem_of_mem_drop hx'))), rfl⟩ ?_
   refine runf @box.eq_1 ?_
   refine call_pure (node_c (rt (l.take (sp l.length))) (rt (l.drop (sp l.length))) (rt_len (fun x hx' => hx x (List.mem_of_mem_take hx'))) (rt_len (fun x hx' => hx x (List.mem_of_mem_drop hx')))) (by rfl) (by rfl) (by rfl) ?_
   refine runf @box.eq_1 ?_
   rw [rt_two h2]
   exact ends_ret (κ := [0]) (by rfl) (subOk_one 0 (by rfl) (by rfl)) (by rfl) (by rfl) (by rfl)
theorem root_c (l : List By) (hl : l.length ≤ 1000000) (hx : ∀ x ∈ l, x.length ≤ 1000000) : AC Tryz.prog 58 [sls l] [] (.st (root l)) [] := by
 refine AC.enter [108] [] Tryz.func58 rfl (by decide) (by decide) (Nat.le_of_ble_eq_true rfl) (by kernel_rfl) ?_; simp only [eraseC, eraseO, List.map_cons, List.map_nil, List.map_toArray, List.getElem?_toArray, List.getElem?_cons_zero, List.getElem?_cons_succ, Option.bind_some, Option.bind_none, List.append_eq, List.cons_append, List.nil_append]
 by_cases h0 : l.length = 0
 ·refine run ?_
  refine call_pure (sha_c [] (by simp)) (by rfl) (by rfl) (by rfl) ?_
  refine run ?_
  have : root l = sha [] := if_pos (List.eq_nil_of_length_eq_zero h0)
  rw [this]
  exact ends_ret0 (by rfl) (by rfl) (by rfl)
 ·refine run ?_
  refine call_mk (root1_c l.length l (Nat.le_refl _) (by omega) hl hx) ?_
  refine runf @box.eq_1 ?_
  have : root l = rt l := if_neg (fun e => h0 (by rw [e]; rfl))
  rw [this]
  exact ends_ret0 (by rfl) (by rfl) (by rfl)
theorem root_rt {l : List By} (h : 0 < l.length) : root l = rt l := if_neg (fun e => by rw [e] at h; simp at h)
end Go.Proofs.YthbpbkbjdfcnjaaGreatDoor.Pe
namespace Go.Proofs.YthbpbkbjdfcnjaaGreatDoor.Pe
open Go Sm Mk
set_option maxRecDepth 100000
theorem node_len (l r : By) : (node l r).length = 32 := sha_len _
theorem rev_last (r : List By) (q : By) : (r.reverse ++ [q])[r.length]? = some q := by
 rw [List.getElem?_append_right (by simp)]; simp
theorem rev_take (r : List By) (q : By) : (r.reverse ++ [q]).take r.length = r.reverse := by
 rw [List.take_append_of_le_length (by simp), List.take_of_length_le (by simp)]
end Go.Proofs.YthbpbkbjdfcnjaaGreatDoor.Pe
namespace Go.Proofs.YthbpbkbjdfcnjaaGreatDoor.Pe
open Go Sm Mk
set_option maxRecDepth 100000
end Go.Proofs.YthbpbkbjdfcnjaaGreatDoor.Pe
namespace Go.Proofs.YthbpbkbjdfcnjaaGreatDoor.Pe
open Go Sm Mk
set_option maxRecDepth 100000
theorem link_len : ∀ (k : Nat) (l : List By) (m : Nat) (w : Bool), 0 < m → m ≤ l.length → l.length ≤ k → (link l m w).length ≤ k := by
 intro k
 induction k with
 | zero => intro l m w h0 h1 h; omega
 | succ k ih =>
  intro l m w h0 h1 h
  by_cases h2 : m = l.length
  ·subst h2; rw [link_all]; split <;> simp
  ·have h3 := sp_lt (n := l.length) (by omega)
   have h4 := sp_pos l.length
   rw [link_two h0 (by omega)]
   split
   ·have := ih (l.take (sp l.length)) m w h0 (by simp; omega) (by simp; omega); simp; omega
   ·have := ih (l.drop (sp l.length)) (m - sp l.length) false (by omega) (by simp; omega) (by simp; omega); simp; omega
theorem link1_c (k : Nat) : ∀ (l : List By) (m : Nat) (w : Bool), l.length ≤ k → 0 < m → m ≤ l.length → l.length ≤ 1000000 → (∀ x ∈ l, x.length ≤ 1000000) →
  AC Tryz.prog 134 [sls l, .it .i64 m, .bo w, .ptr 0 0] [box 134] (.sl (.own 1) ((link l m w).map .st)) [box 134, .buf (link l m w).length 9 1] := by
 induction k with
 | zero => intro l m w h1 h2; omega
 | succ k ih =>
  intro l m w hk h0 hm hl hx
  refine AC.enter [110, 58] [] Tryz.func134 rfl (by decide) (by decide) (Nat.le_of_ble_eq_true rfl) (by kernel_rfl) ?_; simp only [eraseC, eraseO, List.map_cons, List.map_nil, List.map_toArray, List.getElem?_toArray, List.getElem?_cons_zero, List.getElem?_cons_succ, Option.bind_some, Option.bind_none, List.append_eq, List.cons_append, List.nil_append]
  by_cases h1 : m = l.length
  ·subst h1
   refine run ?_
   rw [link_all]
   cases w
   ·refine run ?_
    refine call_pure (root_c l hl hx) (by rfl) (by rfl) (by rfl) ?_
    rw [root_rt (by omega)]
    refine run ?_
    refine ends_retW _ _ (Weak.reserve _ 7 (es := [.st (rt l)]) (by rfl) 9 1) [0, 1] (by rfl) (subOk_two 0 1 (by decide) (by rfl) (by rfl) (by rfl) (by rfl)) (by rfl) (by rfl) (by rfl)
   ·refine run ?_
    refine ends_retW _ _ (Weak.reserve _ 7 (es := []) (by rfl) 9 1) [0, 1] (by rfl) (subOk_two 0 1 (by decide) (by rfl) (by rfl) (by rfl) (by rfl)) (by rfl) (by rfl) (by rfl)
  ·have h2 : 2 ≤ l.length := by omega
   have h3 := sp_lt h2
   have h4 := sp_pos l.length
   refine run ?_
   refine call_pure (halves_c l h2 hl) (by rfl) (by rfl) (by rfl) ?_
   have ht : (List.take (sp l.length) l).length = sp l.length := by simp; omega
   have hxt : ∀ x ∈ l.take (sp l.length), x.length ≤ 1000000 := fun x hx' => hx x (List.mem_of_mem_take hx')
   have hxd : ∀ x ∈ l.drop (sp l.length), x.length ≤ 1000000 := fun x hx' => hx x (List.mem_of_mem_drop hx')
   by_cases hs : m ≤ sp l.length
   ·have hp := link_len (l.take (sp l.length)).length (l.take (sp l.length)) m w h0 (by simp; omega) (Nat.le_refl _)
    have hr : root (l.drop (sp l.length)) = rt (l.drop (sp l.length)) := root_rt (by simp; omega)
    refine runf (an @box.eq_1 @ht) ?_
    refine call_mk (ih (l.take (sp l.length)) m w (by simp; omega) h0 (by simp; omega) (by simp; omega) hxt) ?_
    refine runf (an @box.eq_1 @ht) ?_
    refine call_pure (root_c (l.drop (sp l.length)) (by simp; omega) hxd) (by rfl) (by rfl) (by rfl) ?_
    rw [hr]
    refine runf (an @box.eq_1 @ht) ?_
    rw [link_two h0 (by omega), if_pos hs]
    exact ends_ret (κ := [0, 1]) (by rfl) (subOk_two 0 1 (by decide) (by rfl) (by rfl) (by rfl) (by simp [SObj.ren])) (by rfl) (by rfl) (by simp [resV, AV.ren, AV.r2, AV.r1, AV.r0, Mode.ren, idx, ↓upd_apply])
   ·have hd : (l.drop (sp l.length)).length = l.length - sp l.length := List.length_drop
    have hp := link_len (l.drop (sp l.length)).length (l.drop (sp l.length)) (m - sp l.length) false (by omega) (by omega) (Nat.le_refl _)
    have hr : root (l.take (sp l.length)) = rt (l.take (sp l.length)) := root_rt (by simp; omega)
    have hsub : ((m : Int) - (sp l.length : Int)) = ((m - sp l.length : Nat) : Int) := by omega
    refine runf (an @box.eq_1 (an @ht @hsub)) ?_
    refine call_mk (ih (l.drop (sp l.length)) (m - sp l.length) false (by simp; omega) (by omega) (by simp; omega) (by simp; omega) hxd) ?_
    refine runf (an @box.eq_1 @ht) ?_
    refine call_pure (root_c (l.take (sp l.length)) (by simp; omega) hxt) (by rfl) (by rfl) (by rfl) ?_
    rw [hr]
    refine runf (an @box.eq_1 @ht) ?_
    rw [link_two h0 (by omega), if_neg hs]
    exact ends_ret (κ := [0, 1]) (by rfl) (subOk_two 0 1 (by decide) (by rfl) (by rfl) (by rfl) (by simp [SObj.ren])) (by rfl) (by rfl) (by simp [resV, AV.ren, AV.r2, AV.r1, AV.r0, Mode.ren, idx, ↓upd_apply])
theorem link_c (l : List By) (m : Nat) (hm : m ≤ l.length) (hl : l.length ≤ 1000000) (hx : ∀ x ∈ l, x.length ≤ 1000000) :
  AC Tryz.prog 85 [sls l, .it .i64 m] [] (.tup [sls (if m = 0 then [] else link l m true), .bo true]) [] := by
 refine AC.enter [] [] Tryz.func85 rfl (by decide) (by decide) (Nat.le_of_ble_eq_true rfl) (by kernel_rfl) ?_; simp only [eraseC, eraseO, List.map_cons, List.map_nil, List.map_toArray, List.getElem?_toArray, List.getElem?_cons_zero, List.getElem?_cons_succ, Option.bind_some, Option.bind_none, List.append_eq, List.cons_append, List.nil_append]
 by_cases h0 : m = 0
 ·refine run ?_
  rw [if_pos h0]
  exact ends_ret0w (by rfl) (by rfl) (by rfl)
 rw [if_neg h0]
 by_cases h1 : m = l.length
 ·subst h1
  refine run ?_
  rw [link_all]
  exact ends_ret0w (by rfl) (by rfl) (by rfl)
 ·refine run ?_
  refine call_mk (link1_c l.length l m true (Nat.le_refl _) (by omega) hm hl hx) ?_
  refine runf @box.eq_1 ?_
  exact ends_ret0w (by rfl) (by rfl) (by rfl)
end Go.Proofs.YthbpbkbjdfcnjaaGreatDoor.Pe
namespace Go.Proofs.YthbpbkbjdfcnjaaGreatDoor.Pe
open Go Sm Mk
set_option maxRecDepth 100000
theorem roots_len : ∀ (p : List By) (m n : Nat) (x : By) (w : Bool), x.length ≤ 1000000 → (∀ y ∈ p, y.length ≤ 1000000) → (roots p m n x w).1.length ≤ 1000000 ∧ (roots p m n x w).2.1.length ≤ 1000000
 | [], m, n, x, w, h, ha => by simp only [roots]; split <;> simp [h]
 | q :: r, m, n, x, w, h, ha => by
  have hq := ha q (by simp)
  simp only [roots]; split
  ·split
   ·exact ⟨h, h⟩
   ·split <;> simp [hq]
  ·split
   ·have := roots_len r m (sp n) x w h (fun y hy => ha y (by simp [hy]))
    exact ⟨this.1, by rw [node_len]; omega⟩
   ·exact ⟨by rw [node_len]; omega, by rw [node_len]; omega⟩
theorem roots_c (p : List By) : ∀ (m n : Nat) (x : By) (w : Bool), 0 < m → m ≤ n → n ≤ 9223372036854775807 → p.length ≤ 1000000 → x.length ≤ 1000000 → (∀ y ∈ p, y.length ≤ 1000000) →
  AC Tryz.prog 137 [.it .i64 m, .it .i64 n, .st x, sls p.reverse, .bo w] [] (.tup [.st (roots p m n x w).1, .st (roots p m n x w).2.1, .bo (roots p m n x w).2.2]) [] := by
 induction p with
 | nil =>
  intro m n x w h0 hm hn hp hx hall
  refine AC.enter [137, 166, 111] [] Tryz.func137 rfl (by decide) (by decide) (Nat.le_of_ble_eq_true rfl) (by kernel_rfl) ?_; simp only [eraseC, eraseO, List.map_cons, List.map_nil, List.map_toArray, List.getElem?_toArray, List.getElem?_cons_zero, List.getElem?_cons_succ, Option.bind_some, Option.bind_none, List.append_eq, List.cons_append, List.nil_append]
  have : List.reverse ([] : List By) = [] := rfl
  simp only [roots, this]
  by_cases h1 : m = n
  ·subst h1
   cases w
   ·refine run ?_
    exact ends_ret0 (by rfl) (by rfl) (by rfl)
   ·refine run ?_
    exact ends_ret0 (by rfl) (by rfl) (by rfl)
  ·rw [if_neg (fun h => h1 h.1)]
   refine run ?_
   exact ends_ret0 (by rfl) (by rfl) (by rfl)
 | cons q r ih =>
  intro m n x w h0 hm hn hp hx hall
  refine AC.enter [137, 166, 111] [] Tryz.func137 rfl (by decide) (by decide) (Nat.le_of_ble_eq_true rfl) (by kernel_rfl) ?_; simp only [eraseC, eraseO, List.map_cons, List.map_nil, List.map_toArray, List.getElem?_toArray, List.getElem?_cons_zero, List.getElem?_cons_succ, Option.bind_some, Option.bind_none, List.append_eq, List.cons_append, List.nil_append]
  have hrev : List.reverse (q :: r) = r.reverse ++ [q] := by simp
  have hlr : r.reverse.length = r.length := List.length_reverse
  rw [hrev]
  have hp' : r.length + 1 ≤ 1000000 := hp
  by_cases h1 : m = n
  ·subst h1
   cases w
   ·simp only [roots, if_true, Bool.false_eq_true, if_false]
    by_cases hr : r = []
    ·subst hr
     rw [if_pos rfl]
     simp only [List.reverse_nil, List.nil_append]
     refine run ?_
     exact ends_ret0 (by rfl) (by rfl) (by rfl)
    ·rw [if_neg hr]
     have : 0 < r.length := List.length_pos_iff.2 hr
     refine runf @hlr ?_
     exact ends_ret0 (by rfl) (by rfl) (by rfl)
   ·simp only [roots, if_true]
    refine runf @hlr ?_
    exact ends_ret0 (by rfl) (by rfl) (by rfl)
  ·have hl := rev_last r q
   have el : ((r.length + 1 : Nat) : Int) - 1 = (r.length : Int) := by omega
   have ht := rev_take r q
   refine runf (an @hlr (an @el (an @hl @ht))) ?_
   refine call_pure (split_c n (by omega) (by omega)) (by rfl) (by rfl) (by rfl) ?_
   have h3 := sp_lt (n := n) (by omega)
   have h4 := sp_pos n
   have hall' : ∀ y ∈ r, y.length ≤ 1000000 := fun y hy => hall y (by simp [hy])
   by_cases hs : m ≤ sp n
   ·refine runf (an @hlr (an @el (an @hl @ht))) ?_
    refine call_pure (ih m (sp n) x w h0 hs (by omega) (by omega) hx hall') (by rfl) (by rfl) (by rfl) ?_
    refine runf (an @hlr (an @el (an @hl @ht))) ?_
    refine call_pure (node_c _ q (roots_len r m (sp n) x w hx hall').2 (hall q (by simp))) (by rfl) (by rfl) (by rfl) ?_
    refine runf (an @hlr (an @el (an @hl @ht))) ?_
    simp only [roots, if_neg h1, if_pos hs]
    exact ends_ret0 (by rfl) (by rfl) (by rfl)
   ·have e1 : (m : Int) - (sp n : Int) = ((m - sp n : Nat) : Int) := by omega
    have e2 : (n : Int) - (sp n : Int) = ((n - sp n : Nat) : Int) := by omega
    refine runf (an @hlr (an @el (an @hl (an @ht (an @e1 @e2))))) ?_
    refine call_pure (ih (m - sp n) (n - sp n) x false (by omega) (by omega) (by omega) (by omega) hx hall') (by rfl) (by rfl) (by rfl) ?_
    refine runf (an @hlr (an @el (an @hl @ht))) ?_
    refine call_pure (node_c q _ (hall q (by simp)) (roots_len r (m - sp n) (n - sp n) x false hx hall').1) (by rfl) (by rfl) (by rfl) ?_
    refine runf (an @hlr (an @el (an @hl @ht))) ?_
    refine call_pure (node_c q _ (hall q (by simp)) (roots_len r (m - sp n) (n - sp n) x false hx hall').2) (by rfl) (by rfl) (by rfl) ?_
    refine runf (an @hlr (an @el (an @hl @ht))) ?_
    simp only [roots, if_neg h1, if_neg hs]
    exact ends_ret0 (by rfl) (by rfl) (by rfl)
abbrev digs (p : List By) : Bool := p.all fun s => (s.length : Int) == 32
def extB (m n : Int) (old now : By) (p : List By) : Bool :=
 if m < 0 ∨ n < m ∨ old.length ≠ 32 ∨ now.length ≠ 32 ∨ digs p = false then false else
 if m = 0 ∧ old = sha [] ∧ p.length = 0 then true else
 if m = n ∧ now = old ∧ p.length = 0 then true else
 if m = 0 ∨ m = n then false else
 (roots p.reverse m.toNat n.toNat old true).2.2 && (roots p.reverse m.toNat n.toNat old true).1 == old && (roots p.reverse m.toNat n.toNat old true).2.1 == now
theorem extends_c (p : List By) (m n : Int) (old now : By) (hn : n ≤ 9223372036854775807) (hp : p.length ≤ 1000000) (hall : ∀ y ∈ p, y.length ≤ 1000000) :
  AC Tryz.prog 86 [.it .i64 m, .it .i64 n, .st old, .st now, sls p] [] (.bo (extB m n old now p)) [] := by
 refine AC.enter [135, 136, 137, 58] [] Tryz.func86 rfl (by decide) (by decide) (Nat.le_of_ble_eq_true rfl) (by kernel_rfl) ?_; simp only [eraseC, eraseO, List.map_cons, List.map_nil, List.map_toArray, List.getElem?_toArray, List.getElem?_cons_zero, List.getElem?_cons_succ, Option.bind_some, Option.bind_none, List.append_eq, List.cons_append, List.nil_append]
 by_cases a0 : m < 0
 ·rw [show extB m n old now p = false from if_pos (Or.inl a0)]
  refine run ?_
  exact ends_ret0 (by rfl) (by rfl) (by rfl)
 by_cases a1 : n < m
 ·rw [show extB m n old now p = false from if_pos (Or.inr (Or.inl a1))]
  refine run ?_
  exact ends_ret0 (by rfl) (by rfl) (by rfl)
 refine run ?_
 refine call_pure (mkDigest_c old) (by rfl) (by rfl) (by rfl) ?_
 by_cases a2 : old.length = 32
 rotate_left
 ·rw [show extB m n old now p = false from if_pos (Or.inr (Or.inr (Or.inl a2)))]
  refine run ?_
  exact ends_ret0 (by rfl) (by rfl) (by rfl)
 refine run ?_
 refine call_pure (mkDigest_c now) (by rfl) (by rfl) (by rfl) ?_
 by_cases a3 : now.length = 32
 rotate_left
 ·rw [show extB m n old now p = false from if_pos (Or.inr (Or.inr (Or.inr (Or.inl a3))))]
  refine run ?_
  exact ends_ret0 (by rfl) (by rfl) (by rfl)
 refine run ?_
 refine call_pure (areDigests_c p (by omega)) (by rfl) (by rfl) (by rfl) ?_
 cases a4 : digs p
 ·have a4' : (p.all fun s => (s.length : Int) == 32) = false := a4
  rw [show extB m n old now p = false from if_pos (Or.inr (Or.inr (Or.inr (Or.inr a4))))]
  refine runf @a4' ?_
  exact ends_ret0 (by rfl) (by rfl) (by rfl)
 have a4' : (p.all fun s => (s.length : Int) == 32) = true := a4
 have hX : extB m n old now p = if m = 0 ∧ old = sha [] ∧ p.length = 0 then true else
   if m = n ∧ now = old ∧ p.length = 0 then true else
   if m = 0 ∨ m = n then false else
   (roots p.reverse m.toNat n.toNat old true).2.2 && (roots p.reverse m.toNat n.toNat old true).1 == old && (roots p.reverse m.toNat n.toNat old true).2.1 == now := by
  unfold extB
  rw [if_neg (by rw [a4]; simp; omega)]
 rw [hX]
 clear hX
 by_cases b0 : m = 0
 ·refine runf @a4' ?_
  refine call_pure (root_c [] (by simp) (by simp)) (by rfl) (by rfl) (by rfl) ?_
  have hr : root [] = sha [] := rfl
  rw [hr]
  by_cases b1 : old = sha []
  ·have b1' : (old == sha []) = true := by simp [b1]
   by_cases b2 : p.length = 0
   ·rw [if_pos ⟨b0, b1, b2⟩]
    refine runf (an @a4' @b1') ?_
    exact ends_ret0 (by rfl) (by rfl) (by rfl)
   ·rw [if_neg (fun h => b2 h.2.2), if_neg (fun h => b2 h.2.2), if_pos (Or.inl b0)]
    by_cases b3 : m = n
    ·cases b4 : (now == old)
     ·refine runf (an @a4' (an @b1' @b4)) ?_
      exact ends_ret0 (by rfl) (by rfl) (by rfl)
     ·refine runf (an @a4' (an @b1' @b4)) ?_
      exact ends_ret0 (by rfl) (by rfl) (by rfl)
    ·refine runf (an @a4' @b1') ?_
     exact ends_ret0 (by rfl) (by rfl) (by rfl)
  ·have b1' : (old == sha []) = false := by simp [b1]
   rw [if_neg (fun h => b1 h.2.1)]
   by_cases b3 : m = n
   ·by_cases b4 : now = old
    ·have b4' : (now == old) = true := by simp [b4]
     by_cases b2 : p.length = 0
     ·rw [if_pos ⟨b3, b4, b2⟩]
      refine runf (an @a4' (an @b1' @b4')) ?_
      exact ends_ret0 (by rfl) (by rfl) (by rfl)
     ·rw [if_neg (fun h => b2 h.2.2), if_pos (Or.inl b0)]
      refine runf (an @a4' (an @b1' @b4')) ?_
      exact ends_ret0 (by rfl) (by rfl) (by rfl)
    ·have b4' : (now == old) = false := by simp [b4]
     rw [if_neg (fun h => b4 h.2.1), if_pos (Or.inl b0)]
     refine runf (an @a4' (an @b1' @b4')) ?_
     exact ends_ret0 (by rfl) (by rfl) (by rfl)
   ·rw [if_neg (fun h => b3 h.1), if_pos (Or.inl b0)]
    refine runf (an @a4' @b1') ?_
    exact ends_ret0 (by rfl) (by rfl) (by rfl)
 rw [if_neg (fun h => b0 h.1)]
 by_cases b3 : m = n
 ·by_cases b4 : now = old
  ·have b4' : (now == old) = true := by simp [b4]
   by_cases b2 : p.length = 0
   ·rw [if_pos ⟨b3, b4, b2⟩]
    refine runf (an @a4' @b4') ?_
    exact ends_ret0 (by rfl) (by rfl) (by rfl)
   ·rw [if_neg (fun h => b2 h.2.2), if_pos (Or.inr b3)]
    refine runf (an @a4' @b4') ?_
    exact ends_ret0 (by rfl) (by rfl) (by rfl)
  ·have b4' : (now == old) = false := by simp [b4]
   rw [if_neg (fun h => b4 h.2.1), if_pos (Or.inr b3)]
   refine runf (an @a4' @b4') ?_
   exact ends_ret0 (by rfl) (by rfl) (by rfl)
 ·rw [if_neg (fun h => b3 h.1), if_neg (by simp [b0, b3])]
  refine runf @a4' ?_
  have f1 := roots_c p.reverse m.toNat n.toNat old true (by omega) (by omega) (by omega) (by simp; omega) (by omega) (fun y hy => hall y (by simpa using hy))
  rw [List.reverse_reverse, show ((m.toNat : Nat) : Int) = m from by omega, show ((n.toNat : Nat) : Int) = n from by omega] at f1
  refine call_pure f1 (by rfl) (by rfl) (by rfl) ?_
  generalize roots p.reverse m.toNat n.toNat old true = R
  obtain ⟨a, b, ok⟩ := R
  cases ok
  ·refine runf @a4' ?_
   exact ends_ret0 (by rfl) (by rfl) (by rfl)
  ·cases c1 : (a == old)
   ·refine runf (an @a4' @c1) ?_
    exact ends_ret0 (by rfl) (by rfl) (by rfl)
   ·refine runf (an @a4' @c1) ?_
    exact ends_ret0 (by rfl) (by rfl) (by rfl)
end Go.Proofs.YthbpbkbjdfcnjaaGreatDoor.Pe
end
section
namespace Go.Proofs.YthbpbkbjdfcnjaaGreatDoor.Pe
open Go Go.RowKit Co Sg Ac It Sl
set_option maxRecDepth 100000
set_option maxHeartbeats 4000000
abbrev headV (h : Head) : AV := .agg [.it .i64 h.server, .it .i64 h.size, .st h.root, .it .i64 h.time, .it .i64 h.sig.e, .it .i64 h.sig.s]
abbrev entriesV (l : List It.Entry) : AV := .sl .ro (l.map entryV)
theorem entryB_len (e : It.Entry) : (entryB e).length ≤ 200009 := by
 unfold entryB
 split
 ·rename_i h
  rw [Bool.and_eq_true] at h
  have h1 := wi_iff.1 h.1
  have := numI_le e.time (by omega)
  have := bytesIt_len6 e.item
  rw [List.length_append]
  omega
 ·exact Nat.zero_le _
theorem entries_sz (l : List It.Entry) : allSz 50 (l.map entryV) = true := allSz_map 50 entryV (fun _ => rfl) _
theorem sleaf_c (e : It.Entry) (h : Iz e.item) : AC Tryz.prog 57 [entryV e] [] (.st (leafE e)) [] := by
 refine AC.enter [53, 107] [] Tryz.func57 rfl (by decide) (by decide) (Nat.le_of_ble_eq_true rfl) (by kernel_rfl) ?_; simp only [eraseC, eraseO, List.map_cons, List.map_nil, List.map_toArray, List.getElem?_toArray, List.getElem?_cons_zero, List.getElem?_cons_succ, Option.bind_some, Option.bind_none, List.append_eq, List.cons_append, List.nil_append]
 have hl := entryB_len e
 have k1 := entryBytes_c e h
 have k2 := leaf_c (entryB e) (by omega)
 refine run ?_
 refine cp k1 ?_
 refine run ?_
 refine cp k2 ?_
 refine run ?_
 exact er0
theorem sroot_c (l : List It.Entry) (hl : l.length ≤ 1000000) (hz : ∀ e ∈ l, Iz e.item) : AC Tryz.prog 23 [entriesV l] [] (.st (rootE l)) [] := by
 refine AC.enter [57, 58] [] Tryz.func23 rfl (by decide) (by decide) (Nat.le_of_ble_eq_true rfl) (by kernel_rfl) ?_; simp only [eraseC, eraseO, List.map_cons, List.map_nil, List.map_toArray, List.getElem?_toArray, List.getElem?_cons_zero, List.getElem?_cons_succ, Option.bind_some, Option.bind_none, List.append_eq, List.cons_append, List.nil_append]
 have hsz := entries_sz l
 refine run ?_
 refine loop_mk (fun m e S => e 9 = entriesV l ∧ e 10 = .it .i64 (l.length : Int) ∧ ∃ (k : Nat) (acc : List By) (T : Store), e 11 = .it .i64 (k : Int) ∧ e 3 = .sl (.own 0) (acc.map .st) ∧ S = .buf acc.length 9 1 :: T ∧ acc = (l.take k).map leafE ∧ k ≤ l.length ∧ m = l.length - k) l.length
  ⟨(by first | rfl | (simp only [↓upd_apply, ↓put_some, ↓reduceIte, Nat.reduceEqDiff, ↓argEnv_zero, ↓argEnv_succ, *]; done)), (by first | rfl | (simp only [↓upd_apply, ↓put_some, ↓reduceIte, Nat.reduceEqDiff, ↓argEnv_zero, ↓argEnv_succ, *]; done)), 0, [], [], (by first | rfl | (simp only [↓upd_apply, ↓put_some, ↓reduceIte, Nat.reduceEqDiff, ↓argEnv_zero, ↓argEnv_succ, *]; done)), (by first | rfl | (simp only [↓upd_apply, ↓put_some, ↓reduceIte, Nat.reduceEqDiff, ↓argEnv_zero, ↓argEnv_succ, *]; done)), rfl, by simp, by omega, rfl⟩ ?_
 rintro m e S ⟨s9, s10, k, acc, T, s11, s3, rfl, hacc, hk, rfl⟩
 have hT1 : ∀ y : SObj, (T ++ [y])[T.length]? = some y := fun y => by simp
 have hT2 : ∀ y z : SObj, (T ++ [y]).set T.length z = T ++ [z] := fun y z => by simp
 have hal : acc.length = k := by rw [hacc, List.length_map, List.length_take, Nat.min_eq_left hk]
 by_cases hlt : k < l.length
 ·have hg : l[k]? = some l[k] := List.getElem?_eq_getElem hlt
  have hzk := hz l[k] (List.getElem_mem hlt)
  have hst : acc ++ [leafE l[k]] = (l.take (k + 1)).map leafE := by rw [List.take_succ_eq_append_getElem hlt, List.map_append, ← hacc]; rfl
  generalize l[k] = x at *
  have kx := sleaf_c x hzk
  refine runf (an @s9 (an @s10 (an @s11 (an @s3 (an @hg (an @hsz (an @hT1 @hT2))))))) ?_
  refine cp kx ?_
  refine runf (an @s9 (an @s10 (an @s11 @s3))) ?_
  exact round_mk (l.length - (k + 1)) (by omega) ⟨(by first | rfl | (simp only [↓upd_apply, ↓put_some, ↓reduceIte, Nat.reduceEqDiff, ↓argEnv_zero, ↓argEnv_succ, *]; done)), (by first | rfl | (simp only [↓upd_apply, ↓put_some, ↓reduceIte, Nat.reduceEqDiff, ↓argEnv_zero, ↓argEnv_succ, *]; done)), k + 1, acc ++ [leafE x], _, (by first | rfl | (simp only [↓upd_apply, ↓put_some, ↓reduceIte, Nat.reduceEqDiff, ↓argEnv_zero, ↓argEnv_succ, *]; done)), by rw [List.map_append]; exact (by first | rfl | (simp only [↓upd_apply, ↓put_some, ↓reduceIte, Nat.reduceEqDiff, ↓argEnv_zero, ↓argEnv_succ, *]; done)), by rw [List.length_append]; rfl, hst, by omega, rfl⟩
 ·obtain rfl : k = l.length := by omega
  rw [List.take_length] at hacc
  have kr := root_c acc (by omega) (fun x hx => by rw [hacc] at hx; rw [leaves_dig l x hx]; decide)
  rw [show rootE l = Mk.root acc from by rw [hacc]; rfl]
  refine runf (an @s9 (an @s10 (an @s11 @s3))) ?_
  refine cp kr ?_
  refine runf @s3 ?_
  exact er0
theorem rightH_lin {h : Head} : rightH h = true ↔ (0 ≤ h.server ∧ h.server ≤ 19) ∧ (0 ≤ h.size ∧ h.size ≤ 1073741824) ∧ (0 ≤ h.time ∧ h.time ≤ 1099511627776) ∧ h.root.length = 32 ∧ (0 ≤ h.sig.e ∧ h.sig.e ≤ 2305843009213693949) ∧ (0 ≤ h.sig.s ∧ h.sig.s ≤ 2305843009213693949) := by
 rw [rightH_iff]
 simp only [sigR, Bool.and_eq_true, wi_iff]
theorem sright_c (h : Head) : AC Tryz.prog 60 [headV h] [] (.bo (rightH h)) [] := by
 refine AC.enter [] [] Tryz.func60 rfl (by decide) (by decide) (Nat.le_of_ble_eq_true rfl) (by kernel_rfl) ?_; simp only [eraseC, eraseO, List.map_cons, List.map_nil, List.map_toArray, List.getElem?_toArray, List.getElem?_cons_zero, List.getElem?_cons_succ, Option.bind_some, Option.bind_none, List.append_eq, List.cons_append, List.nil_append]
 have hf : ¬ ((0 ≤ h.server ∧ h.server ≤ 19) ∧ (0 ≤ h.size ∧ h.size ≤ 1073741824) ∧ (0 ≤ h.time ∧ h.time ≤ 1099511627776) ∧ h.root.length = 32 ∧ (0 ≤ h.sig.e ∧ h.sig.e ≤ 2305843009213693949) ∧ (0 ≤ h.sig.s ∧ h.sig.s ≤ 2305843009213693949)) → rightH h = false := fun hn => Bool.eq_false_iff.2 fun r => hn (rightH_lin.1 r)
 by_cases h1 : 0 ≤ h.server
 rotate_left
 ·rw [hf (by omega)]
  refine run ?_
  exact er0
 by_cases h2 : h.server < 20
 rotate_left
 ·rw [hf (by omega)]
  refine run ?_
  exact er0
 by_cases h3 : 0 ≤ h.size
 rotate_left
 ·rw [hf (by omega)]
  refine run ?_
  exact er0
 by_cases h4 : h.size ≤ 1073741824
 rotate_left
 ·rw [hf (by omega)]
  refine run ?_
  exact er0
 by_cases h5 : 0 ≤ h.time
 rotate_left
 ·rw [hf (by omega)]
  refine run ?_
  exact er0
 by_cases h6 : h.time ≤ 1099511627776
 rotate_left
 ·rw [hf (by omega)]
  refine run ?_
  exact er0
 by_cases h7 : h.root.length = 32
 rotate_left
 ·have h7' : ¬ (h.root.length : Int) = 32 := by omega
  rw [hf (by omega)]
  refine runf @h7' ?_
  exact er0
 have h7' : (h.root.length : Int) = 32 := by omega
 by_cases h8 : 0 ≤ h.sig.e
 rotate_left
 ·rw [hf (by omega)]
  refine runf @h7' ?_
  exact er0
 by_cases h9 : h.sig.e ≤ 2305843009213693949
 rotate_left
 ·rw [hf (by omega)]
  refine runf @h7' ?_
  exact er0
 by_cases h10 : 0 ≤ h.sig.s
 rotate_left
 ·rw [hf (by omega)]
  refine runf @h7' ?_
  exact er0
 by_cases h11 : h.sig.s ≤ 2305843009213693949
 rotate_left
 ·rw [hf (by omega)]
  refine runf @h7' ?_
  exact er0
 rw [rightH_lin.2 (by omega)]
 refine runf @h7' ?_
 exact er0
theorem coreH_len {h : Head} (h1 : h.server < 9223372036854775808) (h2 : h.size < 9223372036854775808) (h3 : h.time < 9223372036854775808) (h4 : h.root.length ≤ 1000000) : (coreH h).length ≤ 1000100 := by
 have n1 := numI_le h.server h1
 have n2 := numI_le h.size h2
 have n3 := numI_le h.time h3
 have t1 := text_len h4
 have tw : (text wHead).length = 5 := rfl
 unfold coreH
 simp only [List.length_append]
 omega
theorem score_c (h : Head) (hr : rightH h = true) : AC Tryz.prog 62 [headV h] [] (.st (coreH h)) [] := by
 refine AC.enter [65, 103] [] Tryz.func62 rfl (by decide) (by decide) (Nat.le_of_ble_eq_true rfl) (by kernel_rfl) ?_; simp only [eraseC, eraseO, List.map_cons, List.map_nil, List.map_toArray, List.getElem?_toArray, List.getElem?_cons_zero, List.getElem?_cons_succ, Option.bind_some, Option.bind_none, List.append_eq, List.cons_append, List.nil_append]
 have hh := rightH_lin.1 hr
 have n1 := numI_le h.server (by omega)
 have n2 := numI_le h.size (by omega)
 have n3 := numI_le h.time (by omega)
 have t1 := text_len (s := h.root) (by omega)
 have tw : (text wHead).length = 5 := rfl
 unfold coreH
 refine run ?_
 refine cp (text_c wHead (by simp)) ?_
 refine run ?_
 refine cp (num_c h.server (by omega) (by omega)) ?_
 refine run ?_
 refine cp (num_c h.size (by omega) (by omega)) ?_
 refine run ?_
 refine cp (text_c h.root (by omega)) ?_
 refine run ?_
 refine cp (num_c h.time (by omega) (by omega)) ?_
 refine run ?_
 exact er0
theorem coreR_lenH {h : Head} (hr : rightH h = true) : (coreH h).length ≤ 1000100 := by
 have hh := rightH_lin.1 hr
 exact coreH_len (by omega) (by omega) (by omega) (by omega)
theorem sverify_c (p : Int) (h : Head) (hp : -9223372036854775808 ≤ p ∧ p ≤ 9223372036854775807) : AC Tryz.prog 24 [.it .i64 p, headV h] [] (.bo (verifyH p h)) [] := by
 refine AC.enter [60, 62, 61] [] Tryz.func24 rfl (by decide) (by decide) (Nat.le_of_ble_eq_true rfl) (by kernel_rfl) ?_; simp only [eraseC, eraseO, List.map_cons, List.map_nil, List.map_toArray, List.getElem?_toArray, List.getElem?_cons_zero, List.getElem?_cons_succ, Option.bind_some, Option.bind_none, List.append_eq, List.cons_append, List.nil_append]
 have kr := sright_c h
 unfold verifyH
 cases hr : rightH h with
 | false =>
  rw [hr] at kr
  refine run ?_
  refine cp kr ?_
  refine run ?_
  exact er0
 | true =>
  rw [hr] at kr
  have hh := rightH_lin.1 hr
  have hc := coreR_lenH hr
  have kc := score_c h hr
  have kv := verify_c p (coreH h) h.sig (by omega) hp (by omega)
  refine run ?_
  refine cp kr ?_
  refine run ?_
  refine cp kc ?_
  refine run ?_
  refine cp kv ?_
  refine run ?_
  exact er0
theorem shead_c (k : Key) (server : Int) (l : List It.Entry) (time : Int) (hk : -9223372036854775808 ≤ k.secret ∧ k.secret ≤ 9223372036854775807) (hl : l.length ≤ 1000000) (hz : ∀ e ∈ l, Iz e.item) :
  AC Tryz.prog 34 [keyV k, .it .i64 server, entriesV l, .it .i64 time] [] (headV (mkHead k server l time)) [] := by
 refine AC.enter [13, 23, 60, 62, 84] [] Tryz.func34 rfl (by decide) (by decide) (Nat.le_of_ble_eq_true rfl) (by kernel_rfl) ?_; simp only [eraseC, eraseO, List.map_cons, List.map_nil, List.map_toArray, List.getElem?_toArray, List.getElem?_cons_zero, List.getElem?_cons_succ, Option.bind_some, Option.bind_none, List.append_eq, List.cons_append, List.nil_append]
 have k1 := keyright_c k hk
 have k2 := sroot_c l hl hz
 unfold mkHead
 cases hr : k.right with
 | false =>
  rw [if_neg (by simp)]
  rw [hr] at k1
  refine run ?_
  refine cp k1 ?_
  refine run ?_
  exact er0
 | true =>
  rw [if_pos rfl]
  rw [hr] at k1
  have k3 := sright_c ⟨server, l.length, rootE l, time, sig0⟩
  cases hh : rightH ⟨server, l.length, rootE l, time, sig0⟩ with
  | false =>
   rw [hh] at k3
   simp only [hh, Bool.false_eq_true, if_false]
   refine run ?_
   refine cp k1 ?_
   refine run ?_
   refine cp k2 ?_
   refine run ?_
   refine cp k3 ?_
   refine run ?_
   exact er0
  | true =>
   rw [hh] at k3
   simp only [hh, if_true]
   have k4 := score_c ⟨server, l.length, rootE l, time, sig0⟩ hh
   have hc := coreR_lenH hh
   have k5 := sign_c k (coreH ⟨server, l.length, rootE l, time, sig0⟩) (by omega) hk
   generalize coreH ⟨server, l.length, rootE l, time, sig0⟩ = c at *
   generalize sign k c = sg at *
   refine run ?_
   refine cp k1 ?_
   refine run ?_
   refine cp k2 ?_
   refine run ?_
   refine cp k3 ?_
   refine run ?_
   refine cp k4 ?_
   refine run ?_
   refine cp k5 ?_
   refine run ?_
   exact er0
theorem headB_len (h : Head) : (headB h).length ≤ 1000200 := by
 unfold headB
 split
 ·rename_i hr
  have hh := rightH_lin.1 hr
  have := coreR_lenH hr
  have n1 := numI_le h.sig.e (by omega)
  have n2 := numI_le h.sig.s (by omega)
  simp only [List.length_append]
  omega
 ·exact Nat.zero_le _
theorem sheadBytes_c (h : Head) : AC Tryz.prog 66 [headV h] [] (.st (headB h)) [] := by
 refine AC.enter [60, 62, 103] [] Tryz.func66 rfl (by decide) (by decide) (Nat.le_of_ble_eq_true rfl) (by kernel_rfl) ?_; simp only [eraseC, eraseO, List.map_cons, List.map_nil, List.map_toArray, List.getElem?_toArray, List.getElem?_cons_zero, List.getElem?_cons_succ, Option.bind_some, Option.bind_none, List.append_eq, List.cons_append, List.nil_append]
 have kr := sright_c h
 unfold headB
 cases hr : rightH h with
 | false =>
  rw [hr] at kr
  rw [if_neg (by simp)]
  refine run ?_
  refine cp kr ?_
  refine run ?_
  exact er0
 | true =>
  rw [hr] at kr
  rw [if_pos rfl]
  have hh := rightH_lin.1 hr
  have hc := coreR_lenH hr
  have kc := score_c h hr
  have n1 := numI_le h.sig.e (by omega)
  have n2 := numI_le h.sig.s (by omega)
  generalize coreH h = c at *
  refine run ?_
  refine cp kr ?_
  refine run ?_
  refine cp kc ?_
  refine run ?_
  refine cp (num_c h.sig.e (by omega) (by omega)) ?_
  refine run ?_
  refine cp (num_c h.sig.s (by omega) (by omega)) ?_
  refine run ?_
  exact er0
theorem readHead_c (s : By) (hs : s.length ≤ 1000000) : AC Tryz.prog 72 [.st s] [] (.tup [headV (readHead s).1, .bo (readHead s).2]) [] := by
 refine AC.enter [60, 66] [] Tryz.func72 rfl (by decide) (by decide) (Nat.le_of_ble_eq_true rfl) (by kernel_rfl) ?_; simp only [eraseC, eraseO, List.map_cons, List.map_nil, List.map_toArray, List.getElem?_toArray, List.getElem?_cons_zero, List.getElem?_cons_succ, Option.bind_some, Option.bind_none, List.append_eq, List.cons_append, List.nil_append]
 obtain ⟨n, x0, e0, b0, d0, k0⟩ := rtext_s ⟨s, false⟩ hs
 obtain ⟨server, x1, e1, b1, d1, k1⟩ := rnum_s x0 b0
 obtain ⟨size, x2, e2, b2, d2, k2⟩ := rnum_s x1 b1
 obtain ⟨root, x3, e3, b3, d3, k3⟩ := rtext_s x2 b2
 obtain ⟨time, x4, e4, b4, d4, k4⟩ := rnum_s x3 b3
 obtain ⟨se, x5, e5, b5, d5, k5⟩ := rnum_s x4 b4
 obtain ⟨ss, x6, e6, b6, d6, k6⟩ := rnum_s x5 b5
 have hread : readHead s = if n = wHead ∧ x6.done = true ∧ rightH ⟨server, size, root, time, ⟨se, ss⟩⟩ = true ∧ headB ⟨server, size, root, time, ⟨se, ss⟩⟩ = s then (⟨server, size, root, time, ⟨se, ss⟩⟩, true) else (head0, false) := by
  unfold readHead rHead rSig
  simp only [e0, e1, e2, e3, e4, e5, e6]
 have kd := done_c x6
 change AC _ _ _ _ (.bo x6.done) _ at kd
 have kr := sright_c ⟨server, size, root, time, ⟨se, ss⟩⟩
 have kb := sheadBytes_c ⟨server, size, root, time, ⟨se, ss⟩⟩
 generalize headB ⟨server, size, root, time, ⟨se, ss⟩⟩ = bs at *
 generalize rightH ⟨server, size, root, time, ⟨se, ss⟩⟩ = rr at *
 generalize x6.done = dn at *
 refine run ?_
 refine call_mk (AC.newAt (open_c s) _) ?_
 refine run ?_
 refine c1 1 k0 ?_
 by_cases hn : n = wHead
 rotate_left
 ·rw [if_neg (fun h => hn h.1)] at hread
  rw [hread]
  have hne := nilI n wHead hn
  refine runf @hne ?_
  exact er0w
 subst hn
 refine run ?_
 refine c1 1 k1 ?_
 refine run ?_
 refine c1 1 k2 ?_
 refine run ?_
 refine c1 1 k3 ?_
 refine run ?_
 refine c1 1 k4 ?_
 refine run ?_
 refine c1 1 k5 ?_
 refine run ?_
 refine c1 1 k6 ?_
 refine run ?_
 refine c1 1 kd ?_
 cases dn with
 | false =>
  rw [if_neg (fun h => by cases h.2.1)] at hread
  rw [hread]
  refine run ?_
  exact er0w
 | true =>
  refine run ?_
  refine cp kr ?_
  cases rr with
  | false =>
   rw [if_neg (fun h => by cases h.2.2.1)] at hread
   rw [hread]
   refine run ?_
   exact er0w
  | true =>
   refine run ?_
   refine cp kb ?_
   by_cases hb : bs = s
   ·subst hb
    rw [if_pos ⟨rfl, rfl, rfl, rfl⟩] at hread
    rw [hread]
    refine run ?_
    exact er0w
   ·rw [if_neg (fun h => hb h.2.2.2)] at hread
    rw [hread]
    have hne := nilI bs s hb
    refine runf @hne ?_
    exact er0w
end Go.Proofs.YthbpbkbjdfcnjaaGreatDoor.Pe
end
section
namespace Go.Proofs.YthbpbkbjdfcnjaaGreatDoor.Pe
open Go Go.RowKit Co Sg Ac It
set_option maxRecDepth 100000
set_option maxHeartbeats 4000000
abbrev intsV (l : List Int) : AV := .sl .ro (l.map (AV.it .i64))
structure InL (l : List Int) : Prop where
 len : l.length ≤ 140737488351232
 rng : ∀ i ∈ l, -9223372036854775808 ≤ i ∧ i ≤ 9223372036854775807
structure InE (e : It.Entry) : Prop where
 time : -9223372036854775808 ≤ e.time ∧ e.time ≤ 9223372036854775807
 item : InI e.item
theorem shp_entryI {n us} (h : shp Tryz.prog 140737488351232 (n + 7) 71 us) : ∃ e : It.Entry, us = (entryV e).cells ∧ InE e := by
 have h := shp_struct Tryz.underlying71 h
 obtain ⟨a0, b0, rfl, h0, h⟩ := h
 obtain ⟨a1, b1, rfl, h1, rfl⟩ := h
 obtain ⟨time, rfl, w0⟩ := shp_i64 Tryz.underlying3 h0
 obtain ⟨i, rfl, w1⟩ := shp_itemI h1
 exact ⟨⟨time, i⟩, rfl, w0, w1⟩
theorem shp_entriesI {n us} (h : shp Tryz.prog 140737488351232 (n + 8) 25 us) : ∃ l : List It.Entry, us = [.sl .ro (l.map entryV)] ∧ l.length ≤ 140737488351232 ∧ ∀ e ∈ l, InE e :=
 shp_slice entryV InE Tryz.underlying25 h fun x hx => by
  obtain ⟨w, rfl, hw⟩ := shp_entryI hx
  exact ⟨w, by rw [show aggT Tryz.prog 71 = true from by kernel_rfl]; rfl, hw⟩
end Go.Proofs.YthbpbkbjdfcnjaaGreatDoor.Pe
end
section
namespace Go.Proofs.YthbpbkbjdfcnjaaGreatDoor.Pe
open Go Go.RowKit Co Sg Ac It Sl
set_option maxRecDepth 100000
set_option maxHeartbeats 4000000
structure EOk (l : List It.Entry) : Prop where
 len : l.length ≤ 1000000
 iz : ∀ e ∈ l, Iz e.item
theorem EOk.take {l : List It.Entry} (h : EOk l) (n : Nat) : EOk (l.take n) := ⟨by have := h.len; rw [List.length_take]; omega, fun e he => h.iz e (List.mem_of_mem_take he)⟩
theorem EOk.drop {l : List It.Entry} (h : EOk l) (n : Nat) : EOk (l.drop n) := ⟨by have := h.len; rw [List.length_drop]; omega, fun e he => h.iz e (List.mem_of_mem_drop he)⟩
theorem upd_self {e : Env} {d : Nat} {v : AV} (h : e d = v) : e = upd e d v := funext fun t => by
 unfold upd
 split
 ·rename_i ht; rw [ht]; exact h
 ·rfl
theorem tl0 (T : Store) (x : SObj) : (T ++ [x])[T.length]? = some x := by simp
theorem tl0s (T : Store) (x z : SObj) : (T ++ [x]).set T.length z = T ++ [z] := by simp
end Go.Proofs.YthbpbkbjdfcnjaaGreatDoor.Pe
end
