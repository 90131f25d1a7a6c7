/- Several texts in one. -/
import Derived.Test.YthbpbkbjdfcnjaaGreatDoorMkP
set_option linter.unusedSectionVars false
set_option linter.unusedVariables false
set_option linter.unusedSimpArgs false
namespace Go.Proofs.YthbpbkbjdfcnjaaGreatDoor.Mk
open Go Sm
theorem flw_path : ∀ (k : Nat) (l : List By) (i : Nat) (x : By), i < l.length → l[i]? = some x → l.length ≤ k → flw (path l i).reverse i l.length x = (rt l, true) := by
 intro k
 induction k with
 | zero => intro l i x hi hx h; omega
 | succ k ih =>
  intro l i x hi hx h
  by_cases h1 : l.length = 1
  ·obtain ⟨a, rfl⟩ := List.length_eq_one_iff.1 h1
   have : i = 0 := by simp at hi; omega
   subst this
   rw [path_one (by simp), rt_one (by simp)]
   simp at hx
   subst hx
   simp [flw]
  ·have h2 : 2 ≤ l.length := by omega
   have h3 := sp_lt h2
   have h4 := sp_pos l.length
   have ht : (l.take (sp l.length)).length = sp l.length := by simp; omega
   have hd : (l.drop (sp l.length)).length = l.length - sp l.length := List.length_drop
   rw [path_two h2, rt_two h2]
   by_cases hs : i < sp l.length
   ·rw [if_pos hs, List.reverse_append, List.reverse_singleton, List.singleton_append]
    have := ih (l.take (sp l.length)) i x (by omega) (by rw [List.getElem?_take_of_lt hs]; exact hx) (by omega)
    rw [ht] at this
    simp only [flw]
    rw [if_neg h1, if_pos hs, this]
   ·rw [if_neg hs, List.reverse_append, List.reverse_singleton, List.singleton_append]
    have := ih (l.drop (sp l.length)) (i - sp l.length) x (by omega) (by rw [List.getElem?_drop, show sp l.length + (i - sp l.length) = i from by omega]; exact hx) (by omega)
    rw [hd] at this
    simp only [flw]
    rw [if_neg h1, if_neg hs]
    rw [this]
theorem sp_mid {n m : Nat} (h1 : sp n < m) (h2 : m ≤ n) : sp m = sp n := by
 have h0 := sp_pos n
 have := sp_half (n := n) (by omega)
 exact sp_of (j := Nat.log2 (n - 1)) h1 (by rw [Nat.pow_succ]; unfold sp at this; omega)
theorem roots_link : ∀ (k : Nat) (l : List By) (m : Nat) (old : By) (w : Bool), 0 < m → m ≤ l.length → l.length ≤ k → (w = true → old = rt (l.take m)) → roots (link l m w).reverse m l.length old w = (rt (l.take m), rt l, true) := by
 intro k
 induction k with
 | zero => intro l m old w h0 h1 h; omega
 | succ k ih =>
  intro l m old w h0 hm h hw
  by_cases h1 : m = l.length
  ·subst h1
   rw [link_all, List.take_length] at *
   cases w
   ·simp [roots]
   ·have := hw rfl
    subst this
    simp [roots]
  ·have h2 : 2 ≤ l.length := by omega
   have h3 := sp_lt h2
   have h4 := sp_pos l.length
   have ht : (l.take (sp l.length)).length = sp l.length := by simp; omega
   have hd : (l.drop (sp l.length)).length = l.length - sp l.length := List.length_drop
   rw [link_two h0 (by omega), rt_two h2]
   by_cases hs : m ≤ sp l.length
   ·rw [if_pos hs, List.reverse_append, List.reverse_singleton, List.singleton_append]
    have htt : (l.take (sp l.length)).take m = l.take m := by rw [List.take_take, Nat.min_eq_left hs]
    have := ih (l.take (sp l.length)) m old w h0 (by omega) (by omega) (by rw [htt]; exact hw)
    rw [ht, htt] at this
    simp only [roots]
    rw [if_neg h1, if_pos hs, this]
   ·rw [if_neg hs, List.reverse_append, List.reverse_singleton, List.singleton_append]
    have := ih (l.drop (sp l.length)) (m - sp l.length) old false (by omega) (by omega) (by omega) (fun h => by cases h)
    rw [hd] at this
    simp only [roots]
    rw [if_neg h1, if_neg hs, this]
    have hml : (l.take m).length = m := by simp; omega
    have e : sp m = sp l.length := sp_mid (by omega) hm
    rw [rt_two (l := l.take m) (by omega), hml, e, List.take_take, Nat.min_eq_left (by omega), List.drop_take]
abbrev Dig (l : List By) : Prop := ∀ x ∈ l, x.length = 32
theorem sha_len' (l : By) : (sha l).length = 32 := by simp [sha, S8.list, be4]
theorem rt_dig {l : List By} (h0 : 0 < l.length) (h : Dig l) : (rt l).length = 32 := by
 by_cases h2 : 2 ≤ l.length
 ·rw [rt_two h2]; exact sha_len' _
 ·obtain ⟨a, rfl⟩ := List.length_eq_one_iff.1 (by omega : l.length = 1)
  rw [rt_one (by simp)]; exact h a (by simp)
theorem Dig.take {l : List By} (h : Dig l) (k : Nat) : Dig (l.take k) := fun x hx => h x (List.mem_of_mem_take hx)
theorem Dig.drop {l : List By} (h : Dig l) (k : Nat) : Dig (l.drop k) := fun x hx => h x (List.mem_of_mem_drop hx)
theorem Dig.snoc {l : List By} {x : By} (h : Dig l) (hx : x.length = 32) : Dig (l ++ [x]) := by
 intro y hy
 rcases List.mem_append.1 hy with hy | hy
 ·exact h y hy
 ·rw [List.mem_singleton.1 hy]; exact hx
theorem path_dig : ∀ (k : Nat) (l : List By) (i : Nat), l.length ≤ k → Dig l → Dig (path l i) := by
 intro k
 induction k with
 | zero => intro l i h hd; rw [path_one (by omega)]; intro x hx; simp at hx
 | succ k ih =>
  intro l i h hd
  by_cases h2 : 2 ≤ l.length
  ·have h3 := sp_lt h2
   have h4 := sp_pos l.length
   rw [path_two h2]
   split
   ·exact (ih _ i (by simp; omega) (hd.take _)).snoc (rt_dig (by simp; omega) (hd.drop _))
   ·exact (ih _ _ (by simp; omega) (hd.drop _)).snoc (rt_dig (by simp; omega) (hd.take _))
  ·rw [path_one (by omega)]; intro x hx; simp at hx
theorem link_dig : ∀ (k : Nat) (l : List By) (m : Nat) (w : Bool), 0 < m → m ≤ l.length → l.length ≤ k → Dig l → Dig (link l m w) := by
 intro k
 induction k with
 | zero => intro l m w h0 hm h hd; omega
 | succ k ih =>
  intro l m w h0 hm h hd
  by_cases h1 : m = l.length
  ·subst h1
   rw [link_all]
   split
   ·intro x hx; simp at hx
   ·intro x hx; rw [List.mem_singleton.1 hx]; exact rt_dig h0 hd
  ·have h2 : 2 ≤ l.length := by omega
   have h3 := sp_lt h2
   have h4 := sp_pos l.length
   rw [link_two h0 (by omega)]
   split
   ·exact (ih _ m w h0 (by simp; omega) (by simp; omega) (hd.take _)).snoc (rt_dig (by simp; omega) (hd.drop _))
   ·exact (ih _ _ false (by omega) (by simp; omega) (by simp; omega) (hd.drop _)).snoc (rt_dig (by simp; omega) (hd.take _))
end Go.Proofs.YthbpbkbjdfcnjaaGreatDoor.Mk
namespace Go.Proofs.YthbpbkbjdfcnjaaGreatDoor.Mk
open Go Sm
def Clash (l : List By) : Prop := ∃ x y, x ∈ l ∧ y ∈ l ∧ x ≠ y ∧ sha x = sha y
theorem Clash.mono {l l' : List By} (h : Clash l) (hs : ∀ x, x ∈ l → x ∈ l') : Clash l' := by
 obtain ⟨x, y, h1, h2, h3, h4⟩ := h
 exact ⟨x, y, hs x h1, hs y h2, h3, h4⟩
theorem pre_inj {a b c d : By} (h : pre a b = pre c d) (hl : a.length = c.length) : a = c ∧ b = d := by
 unfold pre at h
 exact List.append_inj (List.cons.inj h).2 hl
theorem node_eq {a b c d : By} {L : List By} (h : node a b = node c d) (hl : a.length = c.length) (h1 : pre a b ∈ L) (h2 : pre c d ∈ L) : (a = c ∧ b = d) ∨ Clash L := by
 by_cases he : pre a b = pre c d
 ·exact .inl (pre_inj he hl)
 ·exact .inr ⟨_, _, h1, h2, he, h⟩
theorem climb_flw : ∀ (p : List By) (i n : Nat) (x : By), (flw p i n x).2 = true → (climb p i n x).2.2 = true ∧ (climb p i n x).1 = (flw p i n x).1
 | [], i, n, x, h => by
  simp only [flw, climb] at h ⊢
  split at h
  ·rename_i hn; rw [if_pos hn, if_pos hn]; exact ⟨rfl, rfl⟩
  ·cases h
 | q :: r, i, n, x, h => by
  simp only [flw] at h
  simp only [flw, climb]
  by_cases hn : n = 1
  ·rw [if_pos hn] at h; cases h
  ·rw [if_neg hn] at h
   by_cases hi : i < sp n
   ·rw [if_pos hi] at h
    obtain ⟨h1, h2⟩ := climb_flw r i (sp n) x h
    rw [if_neg hn, if_neg hn, if_pos hi, if_pos hi, if_pos h1]
    exact ⟨rfl, by rw [h2]⟩
   ·rw [if_neg hi] at h
    obtain ⟨h1, h2⟩ := climb_flw r (i - sp n) (n - sp n) x h
    rw [if_neg hn, if_neg hn, if_neg hi, if_neg hi, if_pos h1]
    exact ⟨rfl, by rw [h2]⟩
theorem flw_dig : ∀ (p : List By) (i n : Nat) (x : By), x.length = 32 → (flw p i n x).2 = true → (flw p i n x).1.length = 32
 | [], i, n, x, hx, h => by
  simp only [flw] at h ⊢
  split at h
  ·rename_i hn; rw [if_pos hn]; exact hx
  ·cases h
 | q :: r, i, n, x, hx, h => by
  simp only [flw]
  split
  ·exact hx
  ·split
   ·exact sha_len' _
   ·exact sha_len' _
abbrev ins (p : List By) (i n : Nat) (x : By) : List By := (climb p i n x).2.1
theorem ins_left {q : By} {r : List By} {i n : Nat} {x : By} (hn : n ≠ 1) (hi : i < sp n) (h : (flw r i (sp n) x).2 = true) : ins (q :: r) i n x = ins r i (sp n) x ++ [pre (flw r i (sp n) x).1 q] := by
 obtain ⟨h1, h2⟩ := climb_flw r i (sp n) x h
 simp only [ins, climb]
 rw [if_neg hn, if_pos hi, if_pos h1, h2]
theorem ins_right {q : By} {r : List By} {i n : Nat} {x : By} (hn : n ≠ 1) (hi : ¬ i < sp n) (h : (flw r (i - sp n) (n - sp n) x).2 = true) : ins (q :: r) i n x = ins r (i - sp n) (n - sp n) x ++ [pre q (flw r (i - sp n) (n - sp n) x).1] := by
 obtain ⟨h1, h2⟩ := climb_flw r (i - sp n) (n - sp n) x h
 simp only [ins, climb]
 rw [if_neg hn, if_neg hi, if_pos h1, h2]
theorem once (p : List By) : ∀ (q : List By) (i n : Nat) (x y : By), Dig p → Dig q → x.length = 32 → y.length = 32 → (flw p i n x).2 = true → (flw q i n y).2 = true → (flw p i n x).1 = (flw q i n y).1 →
  (x = y ∧ p = q) ∨ Clash (ins p i n x ++ ins q i n y) := by
 induction p with
 | nil =>
  intro q i n x y hp hq hx hy h1 h2 he
  have hn : n = 1 := by
   simp only [flw] at h1
   split at h1
   ·assumption
   ·cases h1
  subst hn
  cases q with
  | nil => left; simpa [flw] using he
  | cons b q => simp [flw] at h2
 | cons a p ih =>
  intro q i n x y hp hq hx hy h1 h2 he
  have hn : n ≠ 1 := by
   intro hn
   simp only [flw, if_pos hn] at h1
   cases h1
  cases q with
  | nil => simp only [flw, if_neg hn] at h2; cases h2
  | cons b q =>
   have hp' : Dig p := fun z hz => hp z (by simp [hz])
   have hq' : Dig q := fun z hz => hq z (by simp [hz])
   by_cases hi : i < sp n
   ·simp only [flw, if_neg hn, if_pos hi] at h1 h2 he
    rw [ins_left hn hi h1, ins_left hn hi h2]
    rcases node_eq (L := ins p i (sp n) x ++ [pre (flw p i (sp n) x).1 a] ++ (ins q i (sp n) y ++ [pre (flw q i (sp n) y).1 b])) he (by rw [flw_dig p i _ x hx h1, flw_dig q i _ y hy h2]) (by simp) (by simp) with ⟨e1, e2⟩ | hc
    ·rcases ih q i (sp n) x y hp' hq' hx hy h1 h2 e1 with ⟨e3, e4⟩ | hc
     ·exact .inl ⟨e3, by rw [e2, e4]⟩
     ·exact .inr (hc.mono fun z hz => by rcases List.mem_append.1 hz with hz | hz <;> simp [hz])
    ·exact .inr hc
   ·simp only [flw, if_neg hn, if_neg hi] at h1 h2 he
    rw [ins_right hn hi h1, ins_right hn hi h2]
    rcases node_eq (L := ins p (i - sp n) (n - sp n) x ++ [pre a (flw p (i - sp n) (n - sp n) x).1] ++ (ins q (i - sp n) (n - sp n) y ++ [pre b (flw q (i - sp n) (n - sp n) y).1])) he (by rw [hp a (by simp), hq b (by simp)]) (by simp) (by simp) with ⟨e1, e2⟩ | hc
    ·rcases ih q (i - sp n) (n - sp n) x y hp' hq' hx hy h1 h2 e2 with ⟨e3, e4⟩ | hc
     ·exact .inl ⟨e3, by rw [e1, e4]⟩
     ·exact .inr (hc.mono fun z hz => by rcases List.mem_append.1 hz with hz | hz <;> simp [hz])
    ·exact .inr hc
theorem mem_inputs_two {l : List By} (h : 2 ≤ l.length) : pre (rt (l.take (sp l.length))) (rt (l.drop (sp l.length))) ∈ inputs l := by
 rw [inputs_two h]; simp
theorem inputs_left {l : List By} (h : 2 ≤ l.length) : ∀ z, z ∈ inputs (l.take (sp l.length)) → z ∈ inputs l := by
 intro z hz; rw [inputs_two h]; simp [hz]
theorem inputs_right {l : List By} (h : 2 ≤ l.length) : ∀ z, z ∈ inputs (l.drop (sp l.length)) → z ∈ inputs l := by
 intro z hz; rw [inputs_two h]; simp [hz]
theorem Clash.cat {a b c d : List By} (h : Clash (a ++ b)) (h1 : ∀ z, z ∈ a → z ∈ c) (h2 : ∀ z, z ∈ b → z ∈ d) : Clash (c ++ d) :=
 h.mono fun z hz => by
  rcases List.mem_append.1 hz with hz | hz
  ·exact List.mem_append_left _ (h1 z hz)
  ·exact List.mem_append_right _ (h2 z hz)
theorem binds (k : Nat) : ∀ (l : List By) (p : List By) (i : Nat) (x : By), l.length ≤ k → i < l.length → Dig l → Dig p → x.length = 32 → flw p i l.length x = (rt l, true) →
  (l[i]? = some x ∧ p.reverse = path l i) ∨ Clash (inputs l ++ ins p i l.length x) := by
 induction k with
 | zero => intro l p i x hk hi; omega
 | succ k ih =>
  intro l p i x hk hi hl hp hx h
  by_cases h1 : l.length = 1
  ·left
   obtain ⟨a, rfl⟩ := List.length_eq_one_iff.1 h1
   have : i = 0 := by simp at hi; omega
   subst this
   rw [path_one (by simp)]
   rw [rt_one (by simp)] at h
   cases p with
   | nil => simp only [flw, List.length_singleton, if_true, Prod.mk.injEq, and_true] at h; simp [h]
   | cons q r => simp [flw] at h
  have h2 : 2 ≤ l.length := by omega
  have h3 := sp_lt h2
  have h4 := sp_pos l.length
  have ht : (l.take (sp l.length)).length = sp l.length := by simp; omega
  have hd : (l.drop (sp l.length)).length = l.length - sp l.length := List.length_drop
  cases p with
  | nil => simp only [flw, if_neg h1, Prod.mk.injEq] at h; cases h.2
  | cons q r =>
   have hr : Dig r := fun z hz => hp z (by simp [hz])
   rw [rt_two h2] at h
   by_cases hi' : i < sp l.length
   ·simp only [flw, if_neg h1, if_pos hi', Prod.mk.injEq] at h
    rw [ins_left h1 hi' h.2]
    rcases node_eq (L := inputs l ++ (ins r i (sp l.length) x ++ [pre (flw r i (sp l.length) x).1 q])) h.1 (by rw [flw_dig r i _ x hx h.2, rt_dig (by omega) (hl.take _)]) (by simp) (List.mem_append_left _ (mem_inputs_two h2)) with ⟨e1, e2⟩ | hc
    ·have := ih (l.take (sp l.length)) r i x (by omega) (by omega) (hl.take _) hr hx (by rw [ht]; exact Prod.ext e1 h.2)
     rw [ht] at this
     rcases this with ⟨e3, e4⟩ | hc
     ·left
      rw [List.getElem?_take_of_lt hi'] at e3
      exact ⟨e3, by rw [path_two h2, if_pos hi', List.reverse_cons, e4, e2]⟩
     ·exact .inr (hc.cat (inputs_left h2) fun z hz => by simp [hz])
    ·exact .inr hc
   ·simp only [flw, if_neg h1, if_neg hi', Prod.mk.injEq] at h
    rw [ins_right h1 hi' h.2]
    rcases node_eq (L := inputs l ++ (ins r (i - sp l.length) (l.length - sp l.length) x ++ [pre q (flw r (i - sp l.length) (l.length - sp l.length) x).1])) h.1 (by rw [hp q (by simp), rt_dig (by omega) (hl.take _)]) (by simp) (List.mem_append_left _ (mem_inputs_two h2)) with ⟨e1, e2⟩ | hc
    ·have := ih (l.drop (sp l.length)) r (i - sp l.length) x (by omega) (by omega) (hl.drop _) hr hx (by rw [hd]; exact Prod.ext e2 h.2)
     rw [hd] at this
     rcases this with ⟨e3, e4⟩ | hc
     ·left
      rw [List.getElem?_drop, show sp l.length + (i - sp l.length) = i from by omega] at e3
      exact ⟨e3, by rw [path_two h2, if_neg hi', List.reverse_cons, e4, e1]⟩
     ·exact .inr (hc.cat (inputs_right h2) fun z hz => by simp [hz])
    ·exact .inr hc
theorem rt_inj (k : Nat) : ∀ (a b : List By), a.length ≤ k → a.length = b.length → 0 < a.length → Dig a → Dig b → rt a = rt b → a = b ∨ Clash (inputs a ++ inputs b) := by
 induction k with
 | zero => intro a b h h1 h2; omega
 | succ k ih =>
  intro a b hk hl h0 ha hb he
  by_cases h1 : a.length = 1
  ·left
   obtain ⟨x, rfl⟩ := List.length_eq_one_iff.1 h1
   obtain ⟨y, rfl⟩ := List.length_eq_one_iff.1 (hl.symm.trans h1)
   rw [rt_one (by simp), rt_one (by simp)] at he
   have : x = y := he
   rw [this]
  have h2 : 2 ≤ a.length := by omega
  have h2' : 2 ≤ b.length := by omega
  have h3 := sp_lt h2
  have h4 := sp_pos a.length
  have hta : (a.take (sp a.length)).length = sp a.length := by simp; omega
  have hda : (a.drop (sp a.length)).length = a.length - sp a.length := List.length_drop
  have htb : (b.take (sp a.length)).length = sp a.length := by simp; omega
  have hdb : (b.drop (sp a.length)).length = a.length - sp a.length := by rw [List.length_drop, hl]
  have ma := mem_inputs_two h2
  have mb := mem_inputs_two h2'
  have la := inputs_left h2
  have lb := inputs_left h2'
  have ra := inputs_right h2
  have rb := inputs_right h2'
  rw [rt_two h2, rt_two h2'] at he
  rw [← hl] at he mb lb rb
  rcases node_eq (L := inputs a ++ inputs b) he (by rw [rt_dig (by omega) (ha.take _), rt_dig (by omega) (hb.take _)]) (List.mem_append_left _ ma) (List.mem_append_right _ mb) with ⟨e1, e2⟩ | hc
  ·rcases ih _ _ (by omega) (by omega) (by omega) (ha.take _) (hb.take _) e1 with e3 | hc
   ·rcases ih _ _ (by omega) (by omega) (by omega) (ha.drop _) (hb.drop _) e2 with e4 | hc
    ·left
     rw [← List.take_append_drop (sp a.length) a, ← List.take_append_drop (sp a.length) b, e3, e4]
    ·exact .inr (hc.cat ra rb)
   ·exact .inr (hc.cat la lb)
  ·exact .inr hc
theorem rootsR_roots : ∀ (p : List By) (m n : Nat) (x : By) (w : Bool), (roots p m n x w).2.2 = true → (rootsR p m n x w).2.2.2 = true ∧ (rootsR p m n x w).1 = (roots p m n x w).1 ∧ (rootsR p m n x w).2.1 = (roots p m n x w).2.1
 | [], m, n, x, w, h => by
  simp only [roots, rootsR] at h ⊢
  split at h
  ·rename_i hn; rw [if_pos hn, if_pos hn]; exact ⟨rfl, rfl, rfl⟩
  ·cases h
 | q :: r, m, n, x, w, h => by
  simp only [roots] at h
  simp only [roots, rootsR]
  by_cases hn : m = n
  ·rw [if_pos hn] at h
   cases w
   ·by_cases hr : r = []
    ·simp [hn, hr]
    ·simp [hr] at h
   ·simp at h
  ·rw [if_neg hn] at h
   rw [if_neg hn, if_neg (fun hc => hn hc.1), if_neg hn]
   by_cases hi : m ≤ sp n
   ·rw [if_pos hi] at h
    obtain ⟨h1, h2, h3⟩ := rootsR_roots r m (sp n) x w h
    rw [if_pos hi, if_pos hi, if_pos h1]
    exact ⟨rfl, h2, by rw [h3]⟩
   ·rw [if_neg hi] at h
    obtain ⟨h1, h2, h3⟩ := rootsR_roots r (m - sp n) (n - sp n) x false h
    rw [if_neg hi, if_neg hi, if_pos h1]
    exact ⟨rfl, by rw [h2], by rw [h3]⟩
theorem roots_dig : ∀ (p : List By) (m n : Nat) (x : By) (w : Bool), x.length = 32 → Dig p → (roots p m n x w).2.2 = true → (roots p m n x w).1.length = 32 ∧ (roots p m n x w).2.1.length = 32
 | [], m, n, x, w, hx, hp, h => by
  simp only [roots] at h ⊢
  split at h
  ·rename_i hn; rw [if_pos hn]; exact ⟨hx, hx⟩
  ·cases h
 | q :: r, m, n, x, w, hx, hp, h => by
  have hr : Dig r := fun z hz => hp z (by simp [hz])
  simp only [roots] at h ⊢
  by_cases hn : m = n
  ·rw [if_pos hn] at h ⊢
   cases w
   ·by_cases hr : r = []
    ·simp [hr, hp q (by simp)]
    ·simp [hr] at h
   ·simp at h
  ·rw [if_neg hn] at h ⊢
   by_cases hi : m ≤ sp n
   ·rw [if_pos hi] at h ⊢
    exact ⟨(roots_dig r m (sp n) x w hx hr h).1, sha_len' _⟩
   ·rw [if_neg hi]
    exact ⟨sha_len' _, sha_len' _⟩
abbrev insR (p : List By) (m n : Nat) (x : By) (w : Bool) : List By := (rootsR p m n x w).2.2.1
theorem insR_left {q : By} {r : List By} {m n : Nat} {x : By} {w : Bool} (hn : m ≠ n) (hi : m ≤ sp n) (h : (roots r m (sp n) x w).2.2 = true) : insR (q :: r) m n x w = insR r m (sp n) x w ++ [pre (roots r m (sp n) x w).2.1 q] := by
 obtain ⟨h1, h2, h3⟩ := rootsR_roots r m (sp n) x w h
 simp only [insR, rootsR]
 rw [if_neg (fun hc => hn hc.1), if_neg hn, if_pos hi, if_pos h1, h3]
theorem insR_right {q : By} {r : List By} {m n : Nat} {x : By} {w : Bool} (hn : m ≠ n) (hi : ¬ m ≤ sp n) (h : (roots r (m - sp n) (n - sp n) x false).2.2 = true) : insR (q :: r) m n x w = insR r (m - sp n) (n - sp n) x false ++ [pre q (roots r (m - sp n) (n - sp n) x false).1, pre q (roots r (m - sp n) (n - sp n) x false).2.1] := by
 obtain ⟨h1, h2, h3⟩ := rootsR_roots r (m - sp n) (n - sp n) x false h
 simp only [insR, rootsR]
 rw [if_neg (fun hc => hn hc.1), if_neg hn, if_neg hi, if_pos h1, h2, h3]
theorem grows (k : Nat) : ∀ (a b : List By) (p : List By) (old : By) (w : Bool), b.length ≤ k → 0 < a.length → a.length ≤ b.length → Dig a → Dig b → Dig p → old.length = 32 → roots p a.length b.length old w = (rt a, rt b, true) →
  a = b.take a.length ∨ Clash ((inputs a ++ inputs b) ++ insR p a.length b.length old w) := by
 induction k with
 | zero => intro a b p old w h h0 h1; omega
 | succ k ih =>
  intro a b p old w hk h0 hab ha hb hp ho h
  by_cases h1 : a.length = b.length
  ·have he : rt a = rt b := by
    rw [h1] at h
    cases p with
    | nil =>
     simp only [roots] at h
     split at h
     ·simp only [Prod.mk.injEq] at h; rw [← h.1, ← h.2.1]
     ·simp at h
    | cons q r =>
     simp only [roots, if_true] at h
     cases w
     ·by_cases hr : r = []
      ·simp [hr] at h; rw [← h.1, ← h.2]
      ·simp [hr] at h
     ·simp at h
   rcases rt_inj a.length a b (Nat.le_refl _) h1 h0 ha hb he with e | hc
   ·left; rw [h1, List.take_length]; exact e
   ·exact .inr (hc.mono fun z hz => List.mem_append_left _ hz)
  have h2 : 2 ≤ b.length := by omega
  have h3 := sp_lt h2
  have h4 := sp_pos b.length
  have ht : (b.take (sp b.length)).length = sp b.length := by simp; omega
  have hd : (b.drop (sp b.length)).length = b.length - sp b.length := List.length_drop
  have mb := mem_inputs_two h2
  have lb := inputs_left h2
  have rb := inputs_right h2
  cases p with
  | nil => simp only [roots] at h; rw [if_neg (fun hc => h1 hc.1)] at h; simp at h
  | cons q r =>
   have hr : Dig r := fun z hz => hp z (by simp [hz])
   rw [rt_two h2] at h
   by_cases hi : a.length ≤ sp b.length
   ·simp only [roots, if_neg h1, if_pos hi, Prod.mk.injEq] at h
    obtain ⟨e0, e1, e2⟩ := h
    rw [insR_left h1 hi e2]
    rcases node_eq (L := (inputs a ++ inputs b) ++ (insR r a.length (sp b.length) old w ++ [pre (roots r a.length (sp b.length) old w).2.1 q])) e1 (by rw [(roots_dig r _ _ old w ho hr e2).2, rt_dig (by omega) (hb.take _)]) (by simp) (List.mem_append_left _ (List.mem_append_right _ mb)) with ⟨e3, e4⟩ | hc
    ·have := ih a (b.take (sp b.length)) r old w (by omega) h0 (by omega) ha (hb.take _) hr ho (by rw [ht]; exact Prod.ext e0 (Prod.ext e3 e2))
     rw [ht] at this
     rcases this with e5 | hc
     ·left
      rw [List.take_take, Nat.min_eq_left hi] at e5
      exact e5
     ·exact .inr (hc.cat (fun z hz => by rcases List.mem_append.1 hz with hz | hz <;> simp [hz, lb z]) fun z hz => by simp [hz])
    ·exact .inr hc
   ·simp only [roots, if_neg h1, if_neg hi, Prod.mk.injEq] at h
    obtain ⟨e0, e1, e2⟩ := h
    rw [insR_right h1 hi e2]
    have em : sp a.length = sp b.length := sp_mid (by omega) hab
    have h2a : 2 ≤ a.length := by omega
    have ma := mem_inputs_two h2a
    have la := inputs_left h2a
    have ra := inputs_right h2a
    rw [em] at ma la ra
    have hta : (a.take (sp b.length)).length = sp b.length := by simp; omega
    have hda : (a.drop (sp b.length)).length = a.length - sp b.length := List.length_drop
    rw [rt_two h2a, em] at e0
    generalize hL : (inputs a ++ inputs b) ++ (insR r (a.length - sp b.length) (b.length - sp b.length) old false ++ [pre q (roots r (a.length - sp b.length) (b.length - sp b.length) old false).1, pre q (roots r (a.length - sp b.length) (b.length - sp b.length) old false).2.1]) = L
    rcases node_eq (L := L) e0 (by rw [hp q (by simp), rt_dig (by omega) (ha.take _)]) (by rw [← hL]; simp) (by rw [← hL]; exact List.mem_append_left _ (List.mem_append_left _ ma)) with ⟨e3, e4⟩ | hc
    ·rcases node_eq (L := L) e1 (by rw [hp q (by simp), rt_dig (by omega) (hb.take _)]) (by rw [← hL]; simp) (by rw [← hL]; exact List.mem_append_left _ (List.mem_append_right _ mb)) with ⟨e5, e6⟩ | hc
     ·rcases rt_inj _ (a.take (sp b.length)) (b.take (sp b.length)) (Nat.le_refl _) (by omega) (by omega) (ha.take _) (hb.take _) (e3.symm.trans e5) with e7 | hc
      ·have := ih (a.drop (sp b.length)) (b.drop (sp b.length)) r old false (by omega) (by omega) (by omega) (ha.drop _) (hb.drop _) hr ho (by rw [hd, hda]; exact Prod.ext e4 (Prod.ext e6 e2))
       rw [hd, hda] at this
       rcases this with e8 | hc
       ·left
        have hx : b.take a.length = (b.take (sp b.length)) ++ (b.drop (sp b.length)).take (a.length - sp b.length) := by
         conv => lhs; rw [show a.length = sp b.length + (a.length - sp b.length) from by omega]
         rw [List.take_add]
        rw [hx, ← e7, ← e8, List.take_append_drop]
       ·right
        rw [← hL]
        exact hc.cat (fun z hz => by
         rcases List.mem_append.1 hz with hz | hz
         ·exact List.mem_append_left _ (ra z hz)
         ·exact List.mem_append_right _ (rb z hz)) fun z hz => by simp [hz]
      ·right
       rw [← hL]
       exact hc.mono fun z hz => List.mem_append_left _ (by
         rcases List.mem_append.1 hz with hz | hz
         ·exact List.mem_append_left _ (la z hz)
         ·exact List.mem_append_right _ (lb z hz))
     ·exact .inr hc
    ·exact .inr hc
end Go.Proofs.YthbpbkbjdfcnjaaGreatDoor.Mk
namespace Go.Proofs.YthbpbkbjdfcnjaaGreatDoor.Mk
open Go Sm
theorem leads (k : Nat) : ∀ (b : List By) (p : List By) (m : Nat) (old : By) (w : Bool), b.length ≤ k → 0 < m → m ≤ b.length → Dig b → Dig p → old.length = 32 → (roots p m b.length old w).2 = (rt b, true) →
  (roots p m b.length old w).1 = rt (b.take m) ∨ Clash (inputs b ++ insR p m b.length old w) := by
 induction k with
 | zero => intro b p m old w h h0 h1; omega
 | succ k ih =>
  intro b p m old w hk h0 hab hb hp ho h
  by_cases h1 : m = b.length
  ·left
   rw [h1, List.take_length]
   cases p with
   | nil =>
    simp only [roots, h1] at h ⊢
    split at h
    ·rename_i hw
     rw [if_pos hw]
     simp only [Prod.mk.injEq] at h; exact h.1
    ·simp at h
   | cons q r =>
    simp only [roots, if_true, h1] at h ⊢
    cases w
    ·by_cases hr : r = []
     ·simp [hr] at h ⊢; exact h
     ·simp [hr] at h
    ·simp at h
  have h2 : 2 ≤ b.length := by omega
  have h3 := sp_lt h2
  have h4 := sp_pos b.length
  have ht : (b.take (sp b.length)).length = sp b.length := by simp; omega
  have hd : (b.drop (sp b.length)).length = b.length - sp b.length := List.length_drop
  have mb := mem_inputs_two h2
  have lb := inputs_left h2
  have rb := inputs_right h2
  cases p with
  | nil => simp only [roots] at h; rw [if_neg (fun hc => h1 hc.1)] at h; simp at h
  | cons q r =>
   have hr : Dig r := fun z hz => hp z (by simp [hz])
   rw [rt_two h2] at h
   by_cases hi : m ≤ sp b.length
   ·simp only [roots, if_neg h1, if_pos hi, Prod.mk.injEq] at h
    obtain ⟨e1, e2⟩ := h
    rw [insR_left h1 hi e2]
    have e0 : (roots (q :: r) m b.length old w).1 = (roots r m (sp b.length) old w).1 := by simp only [roots, if_neg h1, if_pos hi]
    rw [e0]
    rcases node_eq (L := inputs b ++ (insR r m (sp b.length) old w ++ [pre (roots r m (sp b.length) old w).2.1 q])) e1 (by rw [(roots_dig r _ _ old w ho hr e2).2, rt_dig (by omega) (hb.take _)]) (by simp) (List.mem_append_left _ mb) with ⟨e3, e4⟩ | hc
    ·have := ih (b.take (sp b.length)) r m old w (by omega) h0 (by omega) (hb.take _) hr ho (by rw [ht]; exact Prod.ext e3 e2)
     rw [ht] at this
     rcases this with e5 | hc
     ·left
      rw [List.take_take, Nat.min_eq_left hi] at e5
      exact e5
     ·exact .inr (hc.cat (fun z hz => lb z hz) fun z hz => by simp [hz])
    ·exact .inr hc
   ·simp only [roots, if_neg h1, if_neg hi, Prod.mk.injEq] at h
    obtain ⟨e1, e2⟩ := h
    rw [insR_right h1 hi e2]
    have e0 : (roots (q :: r) m b.length old w).1 = node q (roots r (m - sp b.length) (b.length - sp b.length) old false).1 := by simp only [roots, if_neg h1, if_neg hi]
    rw [e0]
    have hm2 : 2 ≤ (b.take m).length := by rw [List.length_take]; omega
    have hml : (b.take m).length = m := by rw [List.length_take]; omega
    have em : sp m = sp b.length := sp_mid (by omega) hab
    generalize hL : inputs b ++ (insR r (m - sp b.length) (b.length - sp b.length) old false ++ [pre q (roots r (m - sp b.length) (b.length - sp b.length) old false).1, pre q (roots r (m - sp b.length) (b.length - sp b.length) old false).2.1]) = L
    rcases node_eq (L := L) e1 (by rw [hp q (by simp), rt_dig (by omega) (hb.take _)]) (by rw [← hL]; simp) (by rw [← hL]; exact List.mem_append_left _ mb) with ⟨e5, e6⟩ | hc
    ·have := ih (b.drop (sp b.length)) r (m - sp b.length) old false (by omega) (by omega) (by omega) (hb.drop _) hr ho (by rw [hd]; exact Prod.ext e6 e2)
     rw [hd] at this
     rcases this with e8 | hc
     ·left
      rw [rt_two hm2, hml, em, List.take_take, Nat.min_eq_left (by omega), e5, e8, List.drop_take]
     ·right
      rw [← hL]
      exact hc.cat (fun z hz => rb z hz) fun z hz => by simp [hz]
    ·exact .inr hc
end Go.Proofs.YthbpbkbjdfcnjaaGreatDoor.Mk
