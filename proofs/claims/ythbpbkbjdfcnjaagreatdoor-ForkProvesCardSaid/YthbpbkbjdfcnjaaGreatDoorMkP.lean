/- Merkle trees in plain terms: the split, roots, paths, links, and what follows a path or a link. Nothing of the program. -/
import Derived.Test.YthbpbkbjdfcnjaaGreatDoorSumM
set_option linter.unusedSectionVars false
set_option linter.unusedVariables false
set_option linter.unusedSimpArgs false
namespace Go.Proofs.YthbpbkbjdfcnjaaGreatDoor.Mk
open Go Sm
abbrev By := List UInt8
def sp (n : Nat) : Nat := 2 ^ Nat.log2 (n - 1)
theorem sp_of {n j : Nat} (h1 : 2 ^ j < n) (h2 : n ≤ 2 ^ (j + 1)) : sp n = 2 ^ j := by
 unfold sp
 congr 1
 exact (Nat.log2_eq_iff (by omega)).2 ⟨by omega, by omega⟩
theorem sp_lt {n : Nat} (h : 2 ≤ n) : sp n < n := by
 have := (Nat.log2_eq_iff (n := n - 1) (k := Nat.log2 (n - 1)) (by omega)).1 rfl
 unfold sp; omega
theorem sp_pos (n : Nat) : 0 < sp n := Nat.pow_pos (by omega)
theorem sp_half {n : Nat} (h : 2 ≤ n) : n ≤ 2 * sp n := by
 have := (Nat.log2_eq_iff (n := n - 1) (k := Nat.log2 (n - 1)) (by omega)).1 rfl
 unfold sp; rw [Nat.pow_succ] at this; omega
def pre (l r : By) : By := 1 :: (l ++ r)
def node (l r : By) : By := sha (pre l r)
def leaf (s : By) : By := sha (0 :: s)
def rootF : Nat → List By → By
 | 0, l => l.headD []
 | f + 1, l => if l.length ≤ 1 then l.headD [] else node (rootF f (l.take (sp l.length))) (rootF f (l.drop (sp l.length)))
def rt (l : List By) : By := rootF l.length l
def root (l : List By) : By := if l = [] then sha [] else rt l
theorem rootF_fuel : ∀ (f f' : Nat) (l : List By), l.length ≤ f + 1 → l.length ≤ f' + 1 → rootF f l = rootF f' l
 | 0, 0, l, h, h' => rfl
 | 0, f' + 1, l, h, h' => by simp only [rootF]; rw [if_pos (by omega)]
 | f + 1, 0, l, h, h' => by simp only [rootF]; rw [if_pos (by omega)]
 | f + 1, f' + 1, l, h, h' => by
  simp only [rootF]
  by_cases h1 : l.length ≤ 1
  ·rw [if_pos h1, if_pos h1]
  ·rw [if_neg h1, if_neg h1]
   have := sp_lt (n := l.length) (by omega)
   have := sp_pos l.length
   rw [rootF_fuel f f' (l.take _) (by simp; omega) (by simp; omega), rootF_fuel f f' (l.drop _) (by simp; omega) (by simp; omega)]
theorem rt_one {l : List By} (h : l.length ≤ 1) : rt l = l.headD [] := by
 unfold rt
 cases hl : l.length with
 | zero => rfl
 | succ n => simp only [rootF]; rw [if_pos h]
theorem rt_two {l : List By} (h : 2 ≤ l.length) : rt l = node (rt (l.take (sp l.length))) (rt (l.drop (sp l.length))) := by
 have := sp_lt h
 have := sp_pos l.length
 unfold rt
 rw [rootF_fuel l.length (l.length - 1 + 1) l (by omega) (by omega)]
 simp only [rootF]
 rw [if_neg (by omega), rootF_fuel (l.length - 1) (l.take (sp l.length)).length _ (by simp; omega) (by omega), rootF_fuel (l.length - 1) (l.drop (sp l.length)).length _ (by simp; omega) (by omega)]
def pathF : Nat → List By → Nat → List By
 | 0, _, _ => []
 | f + 1, l, i => if l.length ≤ 1 then [] else
  if i < sp l.length then pathF f (l.take (sp l.length)) i ++ [rt (l.drop (sp l.length))] else pathF f (l.drop (sp l.length)) (i - sp l.length) ++ [rt (l.take (sp l.length))]
def path (l : List By) (i : Nat) : List By := pathF l.length l i
theorem pathF_fuel : ∀ (f f' : Nat) (l : List By) (i : Nat), l.length ≤ f + 1 → l.length ≤ f' + 1 → pathF f l i = pathF f' l i
 | 0, 0, l, i, h, h' => rfl
 | 0, f' + 1, l, i, h, h' => by simp only [pathF]; rw [if_pos (by omega)]
 | f + 1, 0, l, i, h, h' => by simp only [pathF]; rw [if_pos (by omega)]
 | f + 1, f' + 1, l, i, h, h' => by
  simp only [pathF]
  by_cases h1 : l.length ≤ 1
  ·rw [if_pos h1, if_pos h1]
  ·rw [if_neg h1, if_neg h1]
   have := sp_lt (n := l.length) (by omega)
   have := sp_pos l.length
   rw [pathF_fuel f f' (l.take _) _ (by simp; omega) (by simp; omega), pathF_fuel f f' (l.drop _) _ (by simp; omega) (by simp; omega)]
theorem path_one {l : List By} (h : l.length ≤ 1) (i : Nat) : path l i = [] := by
 unfold path
 cases hl : l.length with
 | zero => rfl
 | succ n => simp only [pathF]; rw [if_pos h]
theorem path_two {l : List By} (h : 2 ≤ l.length) (i : Nat) : path l i =
  if i < sp l.length then path (l.take (sp l.length)) i ++ [rt (l.drop (sp l.length))] else path (l.drop (sp l.length)) (i - sp l.length) ++ [rt (l.take (sp l.length))] := by
 have := sp_lt h
 have := sp_pos l.length
 unfold path
 rw [pathF_fuel l.length (l.length - 1 + 1) l _ (by omega) (by omega)]
 simp only [pathF]
 rw [if_neg (by omega), pathF_fuel (l.length - 1) (l.take (sp l.length)).length _ _ (by simp; omega) (by omega), pathF_fuel (l.length - 1) (l.drop (sp l.length)).length _ _ (by simp; omega) (by omega)]
def linkF : Nat → List By → Nat → Bool → List By
 | 0, l, m, w => if m = l.length then (if w then [] else [rt l]) else []
 | f + 1, l, m, w => if m = l.length then (if w then [] else [rt l]) else
  if m ≤ sp l.length then linkF f (l.take (sp l.length)) m w ++ [rt (l.drop (sp l.length))] else linkF f (l.drop (sp l.length)) (m - sp l.length) false ++ [rt (l.take (sp l.length))]
def link (l : List By) (m : Nat) (w : Bool) : List By := linkF l.length l m w
theorem linkF_fuel : ∀ (f f' : Nat) (l : List By) (m : Nat) (w : Bool), 0 < m → m ≤ l.length → l.length ≤ f + 1 → l.length ≤ f' + 1 → linkF f l m w = linkF f' l m w
 | 0, 0, l, m, w, _, _, h, h' => rfl
 | 0, f' + 1, l, m, w, h0, hm, h, h' => by
  have e : m = l.length := by omega
  simp only [linkF, if_pos e]
 | f + 1, 0, l, m, w, h0, hm, h, h' => by
  have e : m = l.length := by omega
  simp only [linkF, if_pos e]
 | f + 1, f' + 1, l, m, w, h0, hm, h, h' => by
  simp only [linkF]
  by_cases h1 : m = l.length
  ·rw [if_pos h1, if_pos h1]
  ·rw [if_neg h1, if_neg h1]
   have := sp_lt (n := l.length) (by omega)
   have := sp_pos l.length
   by_cases h2 : m ≤ sp l.length
   ·rw [if_pos h2, if_pos h2, linkF_fuel f f' (l.take _) _ _ h0 (by simp; omega) (by simp; omega) (by simp; omega)]
   ·rw [if_neg h2, if_neg h2, linkF_fuel f f' (l.drop _) _ _ (by omega) (by simp; omega) (by simp; omega) (by simp; omega)]
theorem link_all (l : List By) (w : Bool) : link l l.length w = if w then [] else [rt l] := by
 unfold link
 cases hl : l.length with
 | zero => simp only [linkF]; rw [if_pos hl.symm]
 | succ n => simp only [linkF]; rw [if_pos hl.symm]
theorem link_two {l : List By} {m : Nat} (h0 : 0 < m) (hm : m < l.length) (w : Bool) : link l m w =
  if m ≤ sp l.length then link (l.take (sp l.length)) m w ++ [rt (l.drop (sp l.length))] else link (l.drop (sp l.length)) (m - sp l.length) false ++ [rt (l.take (sp l.length))] := by
 have := sp_lt (n := l.length) (by omega)
 have := sp_pos l.length
 unfold link
 rw [linkF_fuel l.length (l.length - 1 + 1) l _ _ h0 (by omega) (by omega) (by omega)]
 simp only [linkF]
 rw [if_neg (by omega)]
 by_cases h2 : m ≤ sp l.length
 ·rw [if_pos h2, if_pos h2, linkF_fuel (l.length - 1) (l.take (sp l.length)).length _ _ _ h0 (by simp; omega) (by simp; omega) (by omega)]
 ·rw [if_neg h2, if_neg h2, linkF_fuel (l.length - 1) (l.drop (sp l.length)).length _ _ _ (by omega) (by simp; omega) (by simp; omega) (by omega)]
def flw : List By → Nat → Nat → By → By × Bool
 | [], _, n, x => if n = 1 then (x, true) else ([], false)
 | q :: r, i, n, x => if n = 1 then (x, false) else
  if i < sp n then (node (flw r i (sp n) x).1 q, (flw r i (sp n) x).2) else (node q (flw r (i - sp n) (n - sp n) x).1, (flw r (i - sp n) (n - sp n) x).2)
def climb : List By → Nat → Nat → By → By × List By × Bool
 | [], _, n, x => if n = 1 then (x, [], true) else ([], [], false)
 | q :: r, i, n, x => if n = 1 then (x, [], false) else
  if i < sp n then (if (climb r i (sp n) x).2.2 then (node (climb r i (sp n) x).1 q, (climb r i (sp n) x).2.1 ++ [pre (climb r i (sp n) x).1 q], true) else ([], [], false))
  else (if (climb r (i - sp n) (n - sp n) x).2.2 then (node q (climb r (i - sp n) (n - sp n) x).1, (climb r (i - sp n) (n - sp n) x).2.1 ++ [pre q (climb r (i - sp n) (n - sp n) x).1], true) else ([], [], false))
def roots : List By → Nat → Nat → By → Bool → By × By × Bool
 | [], m, n, old, mark => if m = n ∧ mark = true then (old, old, true) else ([], [], false)
 | q :: r, m, n, old, mark => if m = n then (if mark then (old, old, false) else if r = [] then (q, q, true) else ([], [], false)) else
  if m ≤ sp n then ((roots r m (sp n) old mark).1, node (roots r m (sp n) old mark).2.1 q, (roots r m (sp n) old mark).2.2)
  else (node q (roots r (m - sp n) (n - sp n) old false).1, node q (roots r (m - sp n) (n - sp n) old false).2.1, (roots r (m - sp n) (n - sp n) old false).2.2)
def rootsR : List By → Nat → Nat → By → Bool → By × By × List By × Bool
 | [], m, n, old, mark => if m = n ∧ mark = true then (old, old, [], true) else ([], [], [], false)
 | q :: r, m, n, old, mark => if m = n ∧ mark = true then (old, old, [], false) else if m = n then (q, q, [], decide (r = [])) else
  if m ≤ sp n then (if (rootsR r m (sp n) old mark).2.2.2 then ((rootsR r m (sp n) old mark).1, node (rootsR r m (sp n) old mark).2.1 q, (rootsR r m (sp n) old mark).2.2.1 ++ [pre (rootsR r m (sp n) old mark).2.1 q], true) else ([], [], [], false))
  else (if (rootsR r (m - sp n) (n - sp n) old false).2.2.2 then (node q (rootsR r (m - sp n) (n - sp n) old false).1, node q (rootsR r (m - sp n) (n - sp n) old false).2.1,
    (rootsR r (m - sp n) (n - sp n) old false).2.2.1 ++ [pre q (rootsR r (m - sp n) (n - sp n) old false).1, pre q (rootsR r (m - sp n) (n - sp n) old false).2.1], true) else ([], [], [], false))
def inputsF : Nat → List By → List By
 | 0, _ => []
 | f + 1, l => if l.length < 2 then [] else inputsF f (l.take (sp l.length)) ++ inputsF f (l.drop (sp l.length)) ++ [pre (rt (l.take (sp l.length))) (rt (l.drop (sp l.length)))]
def inputs (l : List By) : List By := inputsF l.length l
theorem inputsF_fuel : ∀ (f f' : Nat) (l : List By), l.length ≤ f + 1 → l.length ≤ f' + 1 → inputsF f l = inputsF f' l
 | 0, 0, l, h, h' => rfl
 | 0, f' + 1, l, h, h' => by simp only [inputsF]; rw [if_pos (by omega)]
 | f + 1, 0, l, h, h' => by simp only [inputsF]; rw [if_pos (by omega)]
 | f + 1, f' + 1, l, h, h' => by
  simp only [inputsF]
  by_cases h1 : l.length < 2
  ·rw [if_pos h1, if_pos h1]
  ·rw [if_neg h1, if_neg h1]
   have := sp_lt (n := l.length) (by omega)
   have := sp_pos l.length
   rw [inputsF_fuel f f' (l.take _) (by simp; omega) (by simp; omega), inputsF_fuel f f' (l.drop _) (by simp; omega) (by simp; omega)]
theorem inputs_one {l : List By} (h : l.length < 2) : inputs l = [] := by
 unfold inputs
 cases hl : l.length with
 | zero => rfl
 | succ n => simp only [inputsF]; rw [if_pos h]
theorem inputs_two {l : List By} (h : 2 ≤ l.length) : inputs l = inputs (l.take (sp l.length)) ++ inputs (l.drop (sp l.length)) ++ [pre (rt (l.take (sp l.length))) (rt (l.drop (sp l.length)))] := by
 have := sp_lt h
 have := sp_pos l.length
 unfold inputs
 rw [inputsF_fuel l.length (l.length - 1 + 1) l (by omega) (by omega)]
 simp only [inputsF]
 rw [if_neg (by omega), inputsF_fuel (l.length - 1) (l.take (sp l.length)).length _ (by simp; omega) (by omega), inputsF_fuel (l.length - 1) (l.drop (sp l.length)).length _ (by simp; omega) (by omega)]
end Go.Proofs.YthbpbkbjdfcnjaaGreatDoor.Mk
