/- A path of a leaf leads to the root; a link to both roots. -/
import Derived.Test.YthbpbkbjdfcnjaaGreatDoorMkP
namespace Go.Proofs.YthbpbkbjdfcnjaaGreatDoor.Mk
set_option linter.unusedSectionVars false
set_option linter.unusedVariables false
set_option linter.unusedSimpArgs false
open Go Sm
theorem flw_path : ∀ (k : Nat) (l : List By) (i : Nat) (x : By), i < l.length → l[i]? = some x → l.length ≤ k → flw (path l i).reverse i l.length x = (rt l, true) := by
  intro k
  induction k with
  | zero => intro l i x hi hx h; omega
  | succ k ih =>
    intro l i x hi hx h
    by_cases h1 : l.length = 1
    · obtain ⟨a, rfl⟩ := List.length_eq_one_iff.1 h1
      have : i = 0 := by simp at hi; omega
      subst this
      rw [path_one (by simp), rt_one (by simp)]
      simp at hx
      subst hx
      simp [flw]
    · have h2 : 2 ≤ l.length := by omega
      have h3 := sp_lt h2
      have h4 := sp_pos l.length
      have ht : (l.take (sp l.length)).length = sp l.length := by simp; omega
      have hd : (l.drop (sp l.length)).length = l.length - sp l.length := List.length_drop
      rw [path_two h2, rt_two h2]
      by_cases hs : i < sp l.length
      · rw [if_pos hs, List.reverse_append, List.reverse_singleton, List.singleton_append]
        have := ih (l.take (sp l.length)) i x (by omega) (by rw [List.getElem?_take_of_lt hs]; exact hx) (by omega)
        rw [ht] at this
        simp only [flw]
        rw [if_neg h1, if_pos hs, this]
      · rw [if_neg hs, List.reverse_append, List.reverse_singleton, List.singleton_append]
        have := ih (l.drop (sp l.length)) (i - sp l.length) x (by omega) (by rw [List.getElem?_drop, show sp l.length + (i - sp l.length) = i from by omega]; exact hx) (by omega)
        rw [hd] at this
        simp only [flw]
        rw [if_neg h1, if_neg hs]
        rw [this]
theorem sp_mid {n m : Nat} (h1 : sp n < m) (h2 : m ≤ n) : sp m = sp n := by
  have h0 := sp_pos n
  have := sp_half (n := n) (by omega)
  exact sp_of (j := Nat.log2 (n - 1)) h1 (by rw [Nat.pow_succ]; unfold sp at this; omega)
theorem roots_link : ∀ (k : Nat) (l : List By) (m : Nat) (old : By) (w : Bool), 0 < m → m ≤ l.length → l.length ≤ k → (w = true → old = rt (l.take m)) → roots (link l m w).reverse m l.length old w = (rt (l.take m), rt l, true) := by
  intro k
  induction k with
  | zero => intro l m old w h0 h1 h; omega
  | succ k ih =>
    intro l m old w h0 hm h hw
    by_cases h1 : m = l.length
    · subst h1
      rw [link_all, List.take_length] at *
      cases w
      · simp [roots]
      · have := hw rfl
        subst this
        simp [roots]
    · have h2 : 2 ≤ l.length := by omega
      have h3 := sp_lt h2
      have h4 := sp_pos l.length
      have ht : (l.take (sp l.length)).length = sp l.length := by simp; omega
      have hd : (l.drop (sp l.length)).length = l.length - sp l.length := List.length_drop
      rw [link_two h0 (by omega), rt_two h2]
      by_cases hs : m ≤ sp l.length
      · rw [if_pos hs, List.reverse_append, List.reverse_singleton, List.singleton_append]
        have htt : (l.take (sp l.length)).take m = l.take m := by rw [List.take_take, Nat.min_eq_left hs]
        have := ih (l.take (sp l.length)) m old w h0 (by omega) (by omega) (by rw [htt]; exact hw)
        rw [ht, htt] at this
        simp only [roots]
        rw [if_neg h1, if_pos hs, this]
      · rw [if_neg hs, List.reverse_append, List.reverse_singleton, List.singleton_append]
        have := ih (l.drop (sp l.length)) (m - sp l.length) old false (by omega) (by omega) (by omega) (fun h => by cases h)
        rw [hd] at this
        simp only [roots]
        rw [if_neg h1, if_neg hs, this]
        have hml : (l.take m).length = m := by simp; omega
        have e : sp m = sp l.length := sp_mid (by omega) hm
        rw [rt_two (l := l.take m) (by omega), hml, e, List.take_take, Nat.min_eq_left (by omega), List.drop_take]
/-- all strings of a list are digests -/
abbrev Dig (l : List By) : Prop := ∀ x ∈ l, x.length = 32
theorem sha_len' (l : By) : (sha l).length = 32 := by simp [sha, S8.list, be4]
theorem rt_dig {l : List By} (h0 : 0 < l.length) (h : Dig l) : (rt l).length = 32 := by
  by_cases h2 : 2 ≤ l.length
  · rw [rt_two h2]; exact sha_len' _
  · obtain ⟨a, rfl⟩ := List.length_eq_one_iff.1 (by omega : l.length = 1)
    rw [rt_one (by simp)]; exact h a (by simp)
theorem Dig.take {l : List By} (h : Dig l) (k : Nat) : Dig (l.take k) := fun x hx => h x (List.mem_of_mem_take hx)
theorem Dig.drop {l : List By} (h : Dig l) (k : Nat) : Dig (l.drop k) := fun x hx => h x (List.mem_of_mem_drop hx)
theorem Dig.snoc {l : List By} {x : By} (h : Dig l) (hx : x.length = 32) : Dig (l ++ [x]) := by
  intro y hy
  rcases List.mem_append.1 hy with hy | hy
  · exact h y hy
  · rw [List.mem_singleton.1 hy]; exact hx
theorem path_dig : ∀ (k : Nat) (l : List By) (i : Nat), l.length ≤ k → Dig l → Dig (path l i) := by
  intro k
  induction k with
  | zero => intro l i h hd; rw [path_one (by omega)]; intro x hx; simp at hx
  | succ k ih =>
    intro l i h hd
    by_cases h2 : 2 ≤ l.length
    · have h3 := sp_lt h2
      have h4 := sp_pos l.length
      rw [path_two h2]
      split
      · exact (ih _ i (by simp; omega) (hd.take _)).snoc (rt_dig (by simp; omega) (hd.drop _))
      · exact (ih _ _ (by simp; omega) (hd.drop _)).snoc (rt_dig (by simp; omega) (hd.take _))
    · rw [path_one (by omega)]; intro x hx; simp at hx
theorem link_dig : ∀ (k : Nat) (l : List By) (m : Nat) (w : Bool), 0 < m → m ≤ l.length → l.length ≤ k → Dig l → Dig (link l m w) := by
  intro k
  induction k with
  | zero => intro l m w h0 hm h hd; omega
  | succ k ih =>
    intro l m w h0 hm h hd
    by_cases h1 : m = l.length
    · subst h1
      rw [link_all]
      split
      · intro x hx; simp at hx
      · intro x hx; rw [List.mem_singleton.1 hx]; exact rt_dig h0 hd
    · have h2 : 2 ≤ l.length := by omega
      have h3 := sp_lt h2
      have h4 := sp_pos l.length
      rw [link_two h0 (by omega)]
      split
      · exact (ih _ m w h0 (by simp; omega) (by simp; omega) (hd.take _)).snoc (rt_dig (by simp; omega) (hd.drop _))
      · exact (ih _ _ false (by omega) (by simp; omega) (by simp; omega) (hd.drop _)).snoc (rt_dig (by simp; omega) (hd.take _))
end Go.Proofs.YthbpbkbjdfcnjaaGreatDoor.Mk
