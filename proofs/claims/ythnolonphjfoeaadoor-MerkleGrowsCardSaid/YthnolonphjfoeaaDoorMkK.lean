/- Several texts in one. -/
import Derived.Test.YthnolonphjfoeaaDoorSumLd
import Derived.Test.YthnolonphjfoeaaDoorShaC
import Derived.Test.YthnolonphjfoeaaDoorPeS
import Derived.Test.YthnolonphjfoeaaDoorMkQ
import Derived.Test.YthnolonphjfoeaaDoorMkH
import Derived.Test.YthnolonphjfoeaaDoorMkLb
/- What the rows' list of package-level tables gives: the known cells of plain values. -/
namespace Go.Proofs.YthnolonphjfoeaaDoor
set_option linter.unusedSectionVars false
set_option linter.unusedVariables false
set_option linter.unusedSimpArgs false
open Go Go.RowKit Sm
theorem tab_of {W : World} (h : Tabs W) : ∀ b i v, (Pe.tabs).T b i = some v → W.cell? ⟨b, i, none⟩ = some v := by
  intro b i v hv
  have hv' : (if b = 1 ∧ i < 64 then some (w32 (tabK.getD i 0)) else if b = 0 ∧ i < 8 then some (w32 (init8.list.getD i 0)) else none) = some v := hv
  split at hv'
  · rename_i hc
    obtain ⟨rfl, hi⟩ := hc
    rw [h.1 i hi]; exact hv'
  · split at hv'
    · rename_i hc
      obtain ⟨rfl, hi⟩ := hc
      rw [h.2 i hi]; exact hv'
    · cases hv'
theorem laidOut : laidOutB Tryd.prog = true := by kernel_rfl
end Go.Proofs.YthnolonphjfoeaaDoor
/- Whoever leads two ways to the same root has found two strings with the same digest. -/
namespace Go.Proofs.YthnolonphjfoeaaDoor.Mk
set_option linter.unusedSectionVars false
set_option linter.unusedVariables false
set_option linter.unusedSimpArgs false
open Go Sm
def Clash (l : List By) : Prop := ∃ x y, x ∈ l ∧ y ∈ l ∧ x ≠ y ∧ sha x = sha y
theorem Clash.mono {l l' : List By} (h : Clash l) (hs : ∀ x, x ∈ l → x ∈ l') : Clash l' := by
  obtain ⟨x, y, h1, h2, h3, h4⟩ := h
  exact ⟨x, y, hs x h1, hs y h2, h3, h4⟩
theorem pre_inj {a b c d : By} (h : pre a b = pre c d) (hl : a.length = c.length) : a = c ∧ b = d := by
  unfold pre at h
  exact List.append_inj (List.cons.inj h).2 hl
/-- equal nodes have equal parts, or their texts clash -/
theorem node_eq {a b c d : By} {L : List By} (h : node a b = node c d) (hl : a.length = c.length) (h1 : pre a b ∈ L) (h2 : pre c d ∈ L) : (a = c ∧ b = d) ∨ Clash L := by
  by_cases he : pre a b = pre c d
  · exact .inl (pre_inj he hl)
  · exact .inr ⟨_, _, h1, h2, he, h⟩
theorem climb_flw : ∀ (p : List By) (i n : Nat) (x : By), (flw p i n x).2 = true → (climb p i n x).2.2 = true ∧ (climb p i n x).1 = (flw p i n x).1
  | [], i, n, x, h => by
    simp only [flw, climb] at h ⊢
    split at h
    · rename_i hn; rw [if_pos hn, if_pos hn]; exact ⟨rfl, rfl⟩
    · cases h
  | q :: r, i, n, x, h => by
    simp only [flw] at h
    simp only [flw, climb]
    by_cases hn : n = 1
    · rw [if_pos hn] at h; cases h
    · rw [if_neg hn] at h
      by_cases hi : i < sp n
      · rw [if_pos hi] at h
        obtain ⟨h1, h2⟩ := climb_flw r i (sp n) x h
        rw [if_neg hn, if_neg hn, if_pos hi, if_pos hi, if_pos h1]
        exact ⟨rfl, by rw [h2]⟩
      · rw [if_neg hi] at h
        obtain ⟨h1, h2⟩ := climb_flw r (i - sp n) (n - sp n) x h
        rw [if_neg hn, if_neg hn, if_neg hi, if_neg hi, if_pos h1]
        exact ⟨rfl, by rw [h2]⟩
theorem flw_dig : ∀ (p : List By) (i n : Nat) (x : By), x.length = 32 → (flw p i n x).2 = true → (flw p i n x).1.length = 32
  | [], i, n, x, hx, h => by
    simp only [flw] at h ⊢
    split at h
    · rename_i hn; rw [if_pos hn]; exact hx
    · cases h
  | q :: r, i, n, x, hx, h => by
    simp only [flw]
    split
    · exact hx
    · split
      · exact sha_len' _
      · exact sha_len' _
/-- the strings that are digested on a way -/
abbrev ins (p : List By) (i n : Nat) (x : By) : List By := (climb p i n x).2.1
theorem ins_left {q : By} {r : List By} {i n : Nat} {x : By} (hn : n ≠ 1) (hi : i < sp n) (h : (flw r i (sp n) x).2 = true) : ins (q :: r) i n x = ins r i (sp n) x ++ [pre (flw r i (sp n) x).1 q] := by
  obtain ⟨h1, h2⟩ := climb_flw r i (sp n) x h
  simp only [ins, climb]
  rw [if_neg hn, if_pos hi, if_pos h1, h2]
theorem ins_right {q : By} {r : List By} {i n : Nat} {x : By} (hn : n ≠ 1) (hi : ¬ i < sp n) (h : (flw r (i - sp n) (n - sp n) x).2 = true) : ins (q :: r) i n x = ins r (i - sp n) (n - sp n) x ++ [pre q (flw r (i - sp n) (n - sp n) x).1] := by
  obtain ⟨h1, h2⟩ := climb_flw r (i - sp n) (n - sp n) x h
  simp only [ins, climb]
  rw [if_neg hn, if_neg hi, if_pos h1, h2]
theorem once (p : List By) : ∀ (q : List By) (i n : Nat) (x y : By), Dig p → Dig q → x.length = 32 → y.length = 32 → (flw p i n x).2 = true → (flw q i n y).2 = true → (flw p i n x).1 = (flw q i n y).1 →
    (x = y ∧ p = q) ∨ Clash (ins p i n x ++ ins q i n y) := by
  induction p with
  | nil =>
    intro q i n x y hp hq hx hy h1 h2 he
    have hn : n = 1 := by
      simp only [flw] at h1
      split at h1
      · assumption
      · cases h1
    subst hn
    cases q with
    | nil => left; simpa [flw] using he
    | cons b q => simp [flw] at h2
  | cons a p ih =>
    intro q i n x y hp hq hx hy h1 h2 he
    have hn : n ≠ 1 := by
      intro hn
      simp only [flw, if_pos hn] at h1
      cases h1
    cases q with
    | nil => simp only [flw, if_neg hn] at h2; cases h2
    | cons b q =>
      have hp' : Dig p := fun z hz => hp z (by simp [hz])
      have hq' : Dig q := fun z hz => hq z (by simp [hz])
      by_cases hi : i < sp n
      · simp only [flw, if_neg hn, if_pos hi] at h1 h2 he
        rw [ins_left hn hi h1, ins_left hn hi h2]
        rcases node_eq (L := ins p i (sp n) x ++ [pre (flw p i (sp n) x).1 a] ++ (ins q i (sp n) y ++ [pre (flw q i (sp n) y).1 b])) he (by rw [flw_dig p i _ x hx h1, flw_dig q i _ y hy h2]) (by simp) (by simp) with ⟨e1, e2⟩ | hc
        · rcases ih q i (sp n) x y hp' hq' hx hy h1 h2 e1 with ⟨e3, e4⟩ | hc
          · exact .inl ⟨e3, by rw [e2, e4]⟩
          · exact .inr (hc.mono fun z hz => by rcases List.mem_append.1 hz with hz | hz <;> simp [hz])
        · exact .inr hc
      · simp only [flw, if_neg hn, if_neg hi] at h1 h2 he
        rw [ins_right hn hi h1, ins_right hn hi h2]
        rcases node_eq (L := ins p (i - sp n) (n - sp n) x ++ [pre a (flw p (i - sp n) (n - sp n) x).1] ++ (ins q (i - sp n) (n - sp n) y ++ [pre b (flw q (i - sp n) (n - sp n) y).1])) he (by rw [hp a (by simp), hq b (by simp)]) (by simp) (by simp) with ⟨e1, e2⟩ | hc
        · rcases ih q (i - sp n) (n - sp n) x y hp' hq' hx hy h1 h2 e2 with ⟨e3, e4⟩ | hc
          · exact .inl ⟨e3, by rw [e1, e4]⟩
          · exact .inr (hc.mono fun z hz => by rcases List.mem_append.1 hz with hz | hz <;> simp [hz])
        · exact .inr hc
theorem mem_inputs_two {l : List By} (h : 2 ≤ l.length) : pre (rt (l.take (sp l.length))) (rt (l.drop (sp l.length))) ∈ inputs l := by
  rw [inputs_two h]; simp
theorem inputs_left {l : List By} (h : 2 ≤ l.length) : ∀ z, z ∈ inputs (l.take (sp l.length)) → z ∈ inputs l := by
  intro z hz; rw [inputs_two h]; simp [hz]
theorem inputs_right {l : List By} (h : 2 ≤ l.length) : ∀ z, z ∈ inputs (l.drop (sp l.length)) → z ∈ inputs l := by
  intro z hz; rw [inputs_two h]; simp [hz]
theorem Clash.cat {a b c d : List By} (h : Clash (a ++ b)) (h1 : ∀ z, z ∈ a → z ∈ c) (h2 : ∀ z, z ∈ b → z ∈ d) : Clash (c ++ d) :=
  h.mono fun z hz => by
    rcases List.mem_append.1 hz with hz | hz
    · exact List.mem_append_left _ (h1 z hz)
    · exact List.mem_append_right _ (h2 z hz)
theorem binds (k : Nat) : ∀ (l : List By) (p : List By) (i : Nat) (x : By), l.length ≤ k → i < l.length → Dig l → Dig p → x.length = 32 → flw p i l.length x = (rt l, true) →
    (l[i]? = some x ∧ p.reverse = path l i) ∨ Clash (inputs l ++ ins p i l.length x) := by
  induction k with
  | zero => intro l p i x hk hi; omega
  | succ k ih =>
    intro l p i x hk hi hl hp hx h
    by_cases h1 : l.length = 1
    · left
      obtain ⟨a, rfl⟩ := List.length_eq_one_iff.1 h1
      have : i = 0 := by simp at hi; omega
      subst this
      rw [path_one (by simp)]
      rw [rt_one (by simp)] at h
      cases p with
      | nil => simp only [flw, List.length_singleton, if_true, Prod.mk.injEq, and_true] at h; simp [h]
      | cons q r => simp [flw] at h
    have h2 : 2 ≤ l.length := by omega
    have h3 := sp_lt h2
    have h4 := sp_pos l.length
    have ht : (l.take (sp l.length)).length = sp l.length := by simp; omega
    have hd : (l.drop (sp l.length)).length = l.length - sp l.length := List.length_drop
    cases p with
    | nil => simp only [flw, if_neg h1, Prod.mk.injEq] at h; cases h.2
    | cons q r =>
      have hr : Dig r := fun z hz => hp z (by simp [hz])
      rw [rt_two h2] at h
      by_cases hi' : i < sp l.length
      · simp only [flw, if_neg h1, if_pos hi', Prod.mk.injEq] at h
        rw [ins_left h1 hi' h.2]
        rcases node_eq (L := inputs l ++ (ins r i (sp l.length) x ++ [pre (flw r i (sp l.length) x).1 q])) h.1 (by rw [flw_dig r i _ x hx h.2, rt_dig (by omega) (hl.take _)]) (by simp) (List.mem_append_left _ (mem_inputs_two h2)) with ⟨e1, e2⟩ | hc
        · have := ih (l.take (sp l.length)) r i x (by omega) (by omega) (hl.take _) hr hx (by rw [ht]; exact Prod.ext e1 h.2)
          rw [ht] at this
          rcases this with ⟨e3, e4⟩ | hc
          · left
            rw [List.getElem?_take_of_lt hi'] at e3
            exact ⟨e3, by rw [path_two h2, if_pos hi', List.reverse_cons, e4, e2]⟩
          · exact .inr (hc.cat (inputs_left h2) fun z hz => by simp [hz])
        · exact .inr hc
      · simp only [flw, if_neg h1, if_neg hi', Prod.mk.injEq] at h
        rw [ins_right h1 hi' h.2]
        rcases node_eq (L := inputs l ++ (ins r (i - sp l.length) (l.length - sp l.length) x ++ [pre q (flw r (i - sp l.length) (l.length - sp l.length) x).1])) h.1 (by rw [hp q (by simp), rt_dig (by omega) (hl.take _)]) (by simp) (List.mem_append_left _ (mem_inputs_two h2)) with ⟨e1, e2⟩ | hc
        · have := ih (l.drop (sp l.length)) r (i - sp l.length) x (by omega) (by omega) (hl.drop _) hr hx (by rw [hd]; exact Prod.ext e2 h.2)
          rw [hd] at this
          rcases this with ⟨e3, e4⟩ | hc
          · left
            rw [List.getElem?_drop, show sp l.length + (i - sp l.length) = i from by omega] at e3
            exact ⟨e3, by rw [path_two h2, if_neg hi', List.reverse_cons, e4, e1]⟩
          · exact .inr (hc.cat (inputs_right h2) fun z hz => by simp [hz])
        · exact .inr hc
/-- lists with the same root are equal, or their inputs clash -/
theorem rt_inj (k : Nat) : ∀ (a b : List By), a.length ≤ k → a.length = b.length → 0 < a.length → Dig a → Dig b → rt a = rt b → a = b ∨ Clash (inputs a ++ inputs b) := by
  induction k with
  | zero => intro a b h h1 h2; omega
  | succ k ih =>
    intro a b hk hl h0 ha hb he
    by_cases h1 : a.length = 1
    · left
      obtain ⟨x, rfl⟩ := List.length_eq_one_iff.1 h1
      obtain ⟨y, rfl⟩ := List.length_eq_one_iff.1 (hl.symm.trans h1)
      rw [rt_one (by simp), rt_one (by simp)] at he
      have : x = y := he
      rw [this]
    have h2 : 2 ≤ a.length := by omega
    have h2' : 2 ≤ b.length := by omega
    have h3 := sp_lt h2
    have h4 := sp_pos a.length
    have hta : (a.take (sp a.length)).length = sp a.length := by simp; omega
    have hda : (a.drop (sp a.length)).length = a.length - sp a.length := List.length_drop
    have htb : (b.take (sp a.length)).length = sp a.length := by simp; omega
    have hdb : (b.drop (sp a.length)).length = a.length - sp a.length := by rw [List.length_drop, hl]
    have ma := mem_inputs_two h2
    have mb := mem_inputs_two h2'
    have la := inputs_left h2
    have lb := inputs_left h2'
    have ra := inputs_right h2
    have rb := inputs_right h2'
    rw [rt_two h2, rt_two h2'] at he
    rw [← hl] at he mb lb rb
    rcases node_eq (L := inputs a ++ inputs b) he (by rw [rt_dig (by omega) (ha.take _), rt_dig (by omega) (hb.take _)]) (List.mem_append_left _ ma) (List.mem_append_right _ mb) with ⟨e1, e2⟩ | hc
    · rcases ih _ _ (by omega) (by omega) (by omega) (ha.take _) (hb.take _) e1 with e3 | hc
      · rcases ih _ _ (by omega) (by omega) (by omega) (ha.drop _) (hb.drop _) e2 with e4 | hc
        · left
          rw [← List.take_append_drop (sp a.length) a, ← List.take_append_drop (sp a.length) b, e3, e4]
        · exact .inr (hc.cat ra rb)
      · exact .inr (hc.cat la lb)
    · exact .inr hc
theorem rootsR_roots : ∀ (p : List By) (m n : Nat) (x : By) (w : Bool), (roots p m n x w).2.2 = true → (rootsR p m n x w).2.2.2 = true ∧ (rootsR p m n x w).1 = (roots p m n x w).1 ∧ (rootsR p m n x w).2.1 = (roots p m n x w).2.1
  | [], m, n, x, w, h => by
    simp only [roots, rootsR] at h ⊢
    split at h
    · rename_i hn; rw [if_pos hn, if_pos hn]; exact ⟨rfl, rfl, rfl⟩
    · cases h
  | q :: r, m, n, x, w, h => by
    simp only [roots] at h
    simp only [roots, rootsR]
    by_cases hn : m = n
    · rw [if_pos hn] at h
      cases w
      · by_cases hr : r = []
        · simp [hn, hr]
        · simp [hr] at h
      · simp at h
    · rw [if_neg hn] at h
      rw [if_neg hn, if_neg (fun hc => hn hc.1), if_neg hn]
      by_cases hi : m ≤ sp n
      · rw [if_pos hi] at h
        obtain ⟨h1, h2, h3⟩ := rootsR_roots r m (sp n) x w h
        rw [if_pos hi, if_pos hi, if_pos h1]
        exact ⟨rfl, h2, by rw [h3]⟩
      · rw [if_neg hi] at h
        obtain ⟨h1, h2, h3⟩ := rootsR_roots r (m - sp n) (n - sp n) x false h
        rw [if_neg hi, if_neg hi, if_pos h1]
        exact ⟨rfl, by rw [h2], by rw [h3]⟩
theorem roots_dig : ∀ (p : List By) (m n : Nat) (x : By) (w : Bool), x.length = 32 → Dig p → (roots p m n x w).2.2 = true → (roots p m n x w).1.length = 32 ∧ (roots p m n x w).2.1.length = 32
  | [], m, n, x, w, hx, hp, h => by
    simp only [roots] at h ⊢
    split at h
    · rename_i hn; rw [if_pos hn]; exact ⟨hx, hx⟩
    · cases h
  | q :: r, m, n, x, w, hx, hp, h => by
    have hr : Dig r := fun z hz => hp z (by simp [hz])
    simp only [roots] at h ⊢
    by_cases hn : m = n
    · rw [if_pos hn] at h ⊢
      cases w
      · by_cases hr : r = []
        · simp [hr, hp q (by simp)]
        · simp [hr] at h
      · simp at h
    · rw [if_neg hn] at h ⊢
      by_cases hi : m ≤ sp n
      · rw [if_pos hi] at h ⊢
        exact ⟨(roots_dig r m (sp n) x w hx hr h).1, sha_len' _⟩
      · rw [if_neg hi]
        exact ⟨sha_len' _, sha_len' _⟩
/-- the strings that are digested for a link -/
abbrev insR (p : List By) (m n : Nat) (x : By) (w : Bool) : List By := (rootsR p m n x w).2.2.1
theorem insR_left {q : By} {r : List By} {m n : Nat} {x : By} {w : Bool} (hn : m ≠ n) (hi : m ≤ sp n) (h : (roots r m (sp n) x w).2.2 = true) : insR (q :: r) m n x w = insR r m (sp n) x w ++ [pre (roots r m (sp n) x w).2.1 q] := by
  obtain ⟨h1, h2, h3⟩ := rootsR_roots r m (sp n) x w h
  simp only [insR, rootsR]
  rw [if_neg (fun hc => hn hc.1), if_neg hn, if_pos hi, if_pos h1, h3]
theorem insR_right {q : By} {r : List By} {m n : Nat} {x : By} {w : Bool} (hn : m ≠ n) (hi : ¬ m ≤ sp n) (h : (roots r (m - sp n) (n - sp n) x false).2.2 = true) : insR (q :: r) m n x w = insR r (m - sp n) (n - sp n) x false ++ [pre q (roots r (m - sp n) (n - sp n) x false).1, pre q (roots r (m - sp n) (n - sp n) x false).2.1] := by
  obtain ⟨h1, h2, h3⟩ := rootsR_roots r (m - sp n) (n - sp n) x false h
  simp only [insR, rootsR]
  rw [if_neg (fun hc => hn hc.1), if_neg hn, if_neg hi, if_pos h1, h2, h3]
theorem grows (k : Nat) : ∀ (a b : List By) (p : List By) (old : By) (w : Bool), b.length ≤ k → 0 < a.length → a.length ≤ b.length → Dig a → Dig b → Dig p → old.length = 32 → roots p a.length b.length old w = (rt a, rt b, true) →
    a = b.take a.length ∨ Clash ((inputs a ++ inputs b) ++ insR p a.length b.length old w) := by
  induction k with
  | zero => intro a b p old w h h0 h1; omega
  | succ k ih =>
    intro a b p old w hk h0 hab ha hb hp ho h
    by_cases h1 : a.length = b.length
    · have he : rt a = rt b := by
        rw [h1] at h
        cases p with
        | nil =>
          simp only [roots] at h
          split at h
          · simp only [Prod.mk.injEq] at h; rw [← h.1, ← h.2.1]
          · simp at h
        | cons q r =>
          simp only [roots, if_true] at h
          cases w
          · by_cases hr : r = []
            · simp [hr] at h; rw [← h.1, ← h.2]
            · simp [hr] at h
          · simp at h
      rcases rt_inj a.length a b (Nat.le_refl _) h1 h0 ha hb he with e | hc
      · left; rw [h1, List.take_length]; exact e
      · exact .inr (hc.mono fun z hz => List.mem_append_left _ hz)
    have h2 : 2 ≤ b.length := by omega
    have h3 := sp_lt h2
    have h4 := sp_pos b.length
    have ht : (b.take (sp b.length)).length = sp b.length := by simp; omega
    have hd : (b.drop (sp b.length)).length = b.length - sp b.length := List.length_drop
    have mb := mem_inputs_two h2
    have lb := inputs_left h2
    have rb := inputs_right h2
    cases p with
    | nil => simp only [roots] at h; rw [if_neg (fun hc => h1 hc.1)] at h; simp at h
    | cons q r =>
      have hr : Dig r := fun z hz => hp z (by simp [hz])
      rw [rt_two h2] at h
      by_cases hi : a.length ≤ sp b.length
      · simp only [roots, if_neg h1, if_pos hi, Prod.mk.injEq] at h
        obtain ⟨e0, e1, e2⟩ := h
        rw [insR_left h1 hi e2]
        rcases node_eq (L := (inputs a ++ inputs b) ++ (insR r a.length (sp b.length) old w ++ [pre (roots r a.length (sp b.length) old w).2.1 q])) e1 (by rw [(roots_dig r _ _ old w ho hr e2).2, rt_dig (by omega) (hb.take _)]) (by simp) (List.mem_append_left _ (List.mem_append_right _ mb)) with ⟨e3, e4⟩ | hc
        · have := ih a (b.take (sp b.length)) r old w (by omega) h0 (by omega) ha (hb.take _) hr ho (by rw [ht]; exact Prod.ext e0 (Prod.ext e3 e2))
          rw [ht] at this
          rcases this with e5 | hc
          · left
            rw [List.take_take, Nat.min_eq_left hi] at e5
            exact e5
          · exact .inr (hc.cat (fun z hz => by rcases List.mem_append.1 hz with hz | hz <;> simp [hz, lb z]) fun z hz => by simp [hz])
        · exact .inr hc
      · simp only [roots, if_neg h1, if_neg hi, Prod.mk.injEq] at h
        obtain ⟨e0, e1, e2⟩ := h
        rw [insR_right h1 hi e2]
        have em : sp a.length = sp b.length := sp_mid (by omega) hab
        have h2a : 2 ≤ a.length := by omega
        have ma := mem_inputs_two h2a
        have la := inputs_left h2a
        have ra := inputs_right h2a
        rw [em] at ma la ra
        have hta : (a.take (sp b.length)).length = sp b.length := by simp; omega
        have hda : (a.drop (sp b.length)).length = a.length - sp b.length := List.length_drop
        rw [rt_two h2a, em] at e0
        generalize hL : (inputs a ++ inputs b) ++ (insR r (a.length - sp b.length) (b.length - sp b.length) old false ++ [pre q (roots r (a.length - sp b.length) (b.length - sp b.length) old false).1, pre q (roots r (a.length - sp b.length) (b.length - sp b.length) old false).2.1]) = L
        rcases node_eq (L := L) e0 (by rw [hp q (by simp), rt_dig (by omega) (ha.take _)]) (by rw [← hL]; simp) (by rw [← hL]; exact List.mem_append_left _ (List.mem_append_left _ ma)) with ⟨e3, e4⟩ | hc
        · rcases node_eq (L := L) e1 (by rw [hp q (by simp), rt_dig (by omega) (hb.take _)]) (by rw [← hL]; simp) (by rw [← hL]; exact List.mem_append_left _ (List.mem_append_right _ mb)) with ⟨e5, e6⟩ | hc
          · rcases rt_inj _ (a.take (sp b.length)) (b.take (sp b.length)) (Nat.le_refl _) (by omega) (by omega) (ha.take _) (hb.take _) (e3.symm.trans e5) with e7 | hc
            · have := ih (a.drop (sp b.length)) (b.drop (sp b.length)) r old false (by omega) (by omega) (by omega) (ha.drop _) (hb.drop _) hr ho (by rw [hd, hda]; exact Prod.ext e4 (Prod.ext e6 e2))
              rw [hd, hda] at this
              rcases this with e8 | hc
              · left
                have hx : b.take a.length = (b.take (sp b.length)) ++ (b.drop (sp b.length)).take (a.length - sp b.length) := by
                  conv => lhs; rw [show a.length = sp b.length + (a.length - sp b.length) from by omega]
                  rw [List.take_add]
                rw [hx, ← e7, ← e8, List.take_append_drop]
              · right
                rw [← hL]
                exact hc.cat (fun z hz => by
                  rcases List.mem_append.1 hz with hz | hz
                  · exact List.mem_append_left _ (ra z hz)
                  · exact List.mem_append_right _ (rb z hz)) fun z hz => by simp [hz]
            · right
              rw [← hL]
              exact hc.mono fun z hz => List.mem_append_left _ (by
                  rcases List.mem_append.1 hz with hz | hz
                  · exact List.mem_append_left _ (la z hz)
                  · exact List.mem_append_right _ (lb z hz))
          · exact .inr hc
        · exact .inr hc
end Go.Proofs.YthnolonphjfoeaaDoor.Mk
/- The walk of the reference: Climb, Roots, Inputs, Clash. -/
namespace Go.Proofs.YthnolonphjfoeaaDoor.Pe
set_option linter.unusedSectionVars false
set_option linter.unusedVariables false
set_option linter.unusedSimpArgs false
open Go Sm Mk
set_option maxRecDepth 100000
theorem climb_len : ∀ (p : List By) (i n : Nat) (x : By), x.length ≤ 1000000 → (climb p i n x).1.length ≤ 1000000 ∧ (climb p i n x).2.1.length ≤ p.length
  | [], i, n, x, h => by simp only [climb]; split <;> simp [h]
  | q :: r, i, n, x, h => by
    simp only [climb]; split
    · exact ⟨h, by simp⟩
    · split
      · split
        · have := climb_len r i (sp n) x h
          refine ⟨by rw [node_len]; omega, ?_⟩
          simp only [List.length_append, List.length_cons, List.length_nil]; omega
        · simp
      · split
        · have := climb_len r (i - sp n) (n - sp n) x h
          refine ⟨by rw [node_len]; omega, ?_⟩
          simp only [List.length_append, List.length_cons, List.length_nil]; omega
        · simp
theorem climb_c (p : List By) : ∀ (i n : Nat) (x : By), i < n → n ≤ 9223372036854775807 → p.length ≤ 1000000 → x.length ≤ 1000000 → (∀ y ∈ p, y.length ≤ 1000000) →
    AC Tryd.prog 23 [.st x, .it .i64 i, .it .i64 n, sls p.reverse] [] (.tup [.st (climb p i n x).1, .sl (.own 0) ((climb p i n x).2.1.map .st), .bo (climb p i n x).2.2]) [.buf (climb p i n x).2.1.length 9 1] := by
  induction p with
  | nil =>
    intro i n x hi hn hp hx hall
    refine AC.enter [34, 35, 41] [] Tryd.func23 rfl (by decide) (by decide) (Nat.le_of_ble_eq_true rfl) (by kernel_rfl) ?_; simp only [eraseC, eraseO, List.map_cons, List.map_nil, List.map_toArray, List.getElem?_toArray, List.getElem?_cons_zero, List.getElem?_cons_succ, Option.bind_some, Option.bind_none]
    have : List.reverse ([] : List By) = [] := rfl
    rw [this]
    by_cases h1 : n = 1
    · subst h1
      simp only [climb, if_pos]
      (try simp only [AWs_eq, ARgs_eq, AOps_eq, iteP_true, iteP_false]); (try simp -implicitDefEqProofs (disch := (first | omega | (simp only [List.length_append, List.length_cons, List.length_map, List.length_nil, List.length_take, List.length_drop]; omega))) only [↓zpre, zpost, cst1, ↓reduceIte, Nat.reduceEqDiff, Nat.reduceAdd, Nat.reduceLT, Nat.reduceLeDiff, Nat.reduceMul, Nat.reduceSub, Int.reduceToNat, Int.reduceAdd, Int.reduceSub, Int.reduceMul, Int.reduceNeg, Int.reduceLE, Int.reduceLT, Int.reduceEq, Int.reduceBEq, Int.reduceBNe, Nat.reduceBEq, Nat.reduceBNe, aBin, aInt, aStr, aUn, aConv, aNil, aFldAddr, aFld, aIdxAddr, aIdx, aBui, aLoad, aStore, aLits, aLit, aMake, aBytes, aApp, srcOf, aSlice, aBound, modeCut, apart, aSet, aFill, aval, aGd, ACall, AV.wk, AV.wk2, AV.wk1, AV.cells, AV.solid, AV.ro, AV.ro1, ← List.map_take, ← List.map_drop, reduceCtorEq, tf0, tf1, tf2, tf3, tf4, tf5, tf6, tf7, tf8])
      refine ends_retW _ _ (Weak.reserve _ 9 (es := []) (by rfl) 9 1) [0] (by rfl) (subOk_one 0 (by rfl) (by rfl)) (by rfl) (by rfl) (by rfl)
    · simp only [climb, if_neg h1]
      (try simp only [AWs_eq, ARgs_eq, AOps_eq, iteP_true, iteP_false]); (try simp -implicitDefEqProofs (disch := (first | omega | (simp only [List.length_append, List.length_cons, List.length_map, List.length_nil, List.length_take, List.length_drop]; omega))) only [↓zpre, zpost, cst1, ↓reduceIte, Nat.reduceEqDiff, Nat.reduceAdd, Nat.reduceLT, Nat.reduceLeDiff, Nat.reduceMul, Nat.reduceSub, Int.reduceToNat, Int.reduceAdd, Int.reduceSub, Int.reduceMul, Int.reduceNeg, Int.reduceLE, Int.reduceLT, Int.reduceEq, Int.reduceBEq, Int.reduceBNe, Nat.reduceBEq, Nat.reduceBNe, aBin, aInt, aStr, aUn, aConv, aNil, aFldAddr, aFld, aIdxAddr, aIdx, aBui, aLoad, aStore, aLits, aLit, aMake, aBytes, aApp, srcOf, aSlice, aBound, modeCut, apart, aSet, aFill, aval, aGd, ACall, AV.wk, AV.wk2, AV.wk1, AV.cells, AV.solid, AV.ro, AV.ro1, ← List.map_take, ← List.map_drop, reduceCtorEq, tf0, tf1, tf2, tf3, tf4, tf5, tf6, tf7, tf8])
      refine ends_retW _ _ (Weak.reserve _ 9 (es := []) (by rfl) 9 1) [0] (by rfl) (subOk_one 0 (by rfl) (by rfl)) (by rfl) (by rfl) (by rfl)
  | cons q r ih =>
    intro i n x hi hn hp hx hall
    refine AC.enter [34, 35, 41] [] Tryd.func23 rfl (by decide) (by decide) (Nat.le_of_ble_eq_true rfl) (by kernel_rfl) ?_; simp only [eraseC, eraseO, List.map_cons, List.map_nil, List.map_toArray, List.getElem?_toArray, List.getElem?_cons_zero, List.getElem?_cons_succ, Option.bind_some, Option.bind_none]
    have hrev : List.reverse (q :: r) = r.reverse ++ [q] := by simp
    rw [hrev]
    have hp' : r.length + 1 ≤ 1000000 := hp
    by_cases h1 : n = 1
    · subst h1
      simp only [climb, if_pos]
      (try simp only [AWs_eq, ARgs_eq, AOps_eq, iteP_true, iteP_false]); (try simp -implicitDefEqProofs (disch := (first | omega | (simp only [List.length_append, List.length_cons, List.length_map, List.length_nil, List.length_take, List.length_drop]; omega))) only [↓zpre, zpost, cst1, ↓reduceIte, Nat.reduceEqDiff, Nat.reduceAdd, Nat.reduceLT, Nat.reduceLeDiff, Nat.reduceMul, Nat.reduceSub, Int.reduceToNat, Int.reduceAdd, Int.reduceSub, Int.reduceMul, Int.reduceNeg, Int.reduceLE, Int.reduceLT, Int.reduceEq, Int.reduceBEq, Int.reduceBNe, Nat.reduceBEq, Nat.reduceBNe, aBin, aInt, aStr, aUn, aConv, aNil, aFldAddr, aFld, aIdxAddr, aIdx, aBui, aLoad, aStore, aLits, aLit, aMake, aBytes, aApp, srcOf, aSlice, aBound, modeCut, apart, aSet, aFill, aval, aGd, ACall, AV.wk, AV.wk2, AV.wk1, AV.cells, AV.solid, AV.ro, AV.ro1, ← List.map_take, ← List.map_drop, reduceCtorEq, tf0, tf1, tf2, tf3, tf4, tf5, tf6, tf7, tf8, List.length_reverse])
      refine ends_retW _ _ (Weak.reserve _ 9 (es := []) (by rfl) 9 1) [0] (by rfl) (subOk_one 0 (by rfl) (by rfl)) (by rfl) (by rfl) (by rfl)
    · have hl := rev_last r q
      have el : ((r.length + 1 : Nat) : Int) - 1 = (r.length : Int) := by omega
      have ht := rev_take r q
      have hall' : ∀ y ∈ r, y.length ≤ 1000000 := fun y hy => hall y (by simp [hy])
      have hq := hall q (by simp)
      (try simp only [AWs_eq, ARgs_eq, AOps_eq, iteP_true, iteP_false]); (try simp -implicitDefEqProofs (disch := (first | omega | (simp only [List.length_append, List.length_cons, List.length_map, List.length_nil, List.length_take, List.length_drop]; omega))) only [↓zpre, zpost, cst1, ↓reduceIte, Nat.reduceEqDiff, Nat.reduceAdd, Nat.reduceLT, Nat.reduceLeDiff, Nat.reduceMul, Nat.reduceSub, Int.reduceToNat, Int.reduceAdd, Int.reduceSub, Int.reduceMul, Int.reduceNeg, Int.reduceLE, Int.reduceLT, Int.reduceEq, Int.reduceBEq, Int.reduceBNe, Nat.reduceBEq, Nat.reduceBNe, aBin, aInt, aStr, aUn, aConv, aNil, aFldAddr, aFld, aIdxAddr, aIdx, aBui, aLoad, aStore, aLits, aLit, aMake, aBytes, aApp, srcOf, aSlice, aBound, modeCut, apart, aSet, aFill, aval, aGd, ACall, AV.wk, AV.wk2, AV.wk1, AV.cells, AV.solid, AV.ro, AV.ro1, ← List.map_take, ← List.map_drop, reduceCtorEq, tf0, tf1, tf2, tf3, tf4, tf5, tf6, tf7, tf8, List.length_reverse, el, hl, ht])
      refine call_pure (rsplit_c n (by omega) (by omega)) (by rfl) (by rfl) (by rfl) ?_
      have h3 := sp_lt (n := n) (by omega)
      have h4 := sp_pos n
      simp only [climb, if_neg h1]
      by_cases hs : i < sp n
      · rw [if_pos hs]
        have hc := climb_len r i (sp n) x hx
        have hi' := ih i (sp n) x hs (by omega) (by omega) hx hall'
        generalize climb r i (sp n) x = C at *
        obtain ⟨a, L, ok⟩ := C
        simp only at hc hi' ⊢
        (try simp only [AWs_eq, ARgs_eq, AOps_eq, iteP_true, iteP_false]); (try simp -implicitDefEqProofs (disch := (first | omega | (simp only [List.length_append, List.length_cons, List.length_map, List.length_nil, List.length_take, List.length_drop]; omega))) only [↓zpre, zpost, cst1, ↓reduceIte, Nat.reduceEqDiff, Nat.reduceAdd, Nat.reduceLT, Nat.reduceLeDiff, Nat.reduceMul, Nat.reduceSub, Int.reduceToNat, Int.reduceAdd, Int.reduceSub, Int.reduceMul, Int.reduceNeg, Int.reduceLE, Int.reduceLT, Int.reduceEq, Int.reduceBEq, Int.reduceBNe, Nat.reduceBEq, Nat.reduceBNe, aBin, aInt, aStr, aUn, aConv, aNil, aFldAddr, aFld, aIdxAddr, aIdx, aBui, aLoad, aStore, aLits, aLit, aMake, aBytes, aApp, srcOf, aSlice, aBound, modeCut, apart, aSet, aFill, aval, aGd, ACall, AV.wk, AV.wk2, AV.wk1, AV.cells, AV.solid, AV.ro, AV.ro1, ← List.map_take, ← List.map_drop, reduceCtorEq, tf0, tf1, tf2, tf3, tf4, tf5, tf6, tf7, tf8, List.length_reverse, el, hl, ht])
        refine call_mk hi' ?_
        cases ok
        · simp only [Bool.false_eq_true, if_false]
          (try simp only [AWs_eq, ARgs_eq, AOps_eq, iteP_true, iteP_false]); (try simp -implicitDefEqProofs (disch := (first | omega | (simp only [List.length_append, List.length_cons, List.length_map, List.length_nil, List.length_take, List.length_drop]; omega))) only [↓zpre, zpost, cst1, ↓reduceIte, Nat.reduceEqDiff, Nat.reduceAdd, Nat.reduceLT, Nat.reduceLeDiff, Nat.reduceMul, Nat.reduceSub, Int.reduceToNat, Int.reduceAdd, Int.reduceSub, Int.reduceMul, Int.reduceNeg, Int.reduceLE, Int.reduceLT, Int.reduceEq, Int.reduceBEq, Int.reduceBNe, Nat.reduceBEq, Nat.reduceBNe, aBin, aInt, aStr, aUn, aConv, aNil, aFldAddr, aFld, aIdxAddr, aIdx, aBui, aLoad, aStore, aLits, aLit, aMake, aBytes, aApp, srcOf, aSlice, aBound, modeCut, apart, aSet, aFill, aval, aGd, ACall, AV.wk, AV.wk2, AV.wk1, AV.cells, AV.solid, AV.ro, AV.ro1, ← List.map_take, ← List.map_drop, reduceCtorEq, tf0, tf1, tf2, tf3, tf4, tf5, tf6, tf7, tf8, List.length_reverse, el, hl, ht])
          refine ends_retW _ _ (Weak.reserve _ 9 (es := []) (by rfl) 9 1) [1] (by rfl) (subOk_one 1 (by rfl) (by rfl)) (by rfl) (by rfl) (by rfl)
        · rw [if_pos rfl]
          (try simp only [AWs_eq, ARgs_eq, AOps_eq, iteP_true, iteP_false]); (try simp -implicitDefEqProofs (disch := (first | omega | (simp only [List.length_append, List.length_cons, List.length_map, List.length_nil, List.length_take, List.length_drop]; omega))) only [↓zpre, zpost, cst1, ↓reduceIte, Nat.reduceEqDiff, Nat.reduceAdd, Nat.reduceLT, Nat.reduceLeDiff, Nat.reduceMul, Nat.reduceSub, Int.reduceToNat, Int.reduceAdd, Int.reduceSub, Int.reduceMul, Int.reduceNeg, Int.reduceLE, Int.reduceLT, Int.reduceEq, Int.reduceBEq, Int.reduceBNe, Nat.reduceBEq, Nat.reduceBNe, aBin, aInt, aStr, aUn, aConv, aNil, aFldAddr, aFld, aIdxAddr, aIdx, aBui, aLoad, aStore, aLits, aLit, aMake, aBytes, aApp, srcOf, aSlice, aBound, modeCut, apart, aSet, aFill, aval, aGd, ACall, AV.wk, AV.wk2, AV.wk1, AV.cells, AV.solid, AV.ro, AV.ro1, ← List.map_take, ← List.map_drop, reduceCtorEq, tf0, tf1, tf2, tf3, tf4, tf5, tf6, tf7, tf8, List.length_reverse, el, hl, ht])
          refine call_pure (rnode_c a q hc.1 hq) (by rfl) (by rfl) (by rfl) ?_
          (try simp only [AWs_eq, ARgs_eq, AOps_eq, iteP_true, iteP_false]); (try simp -implicitDefEqProofs (disch := (first | omega | (simp only [List.length_append, List.length_cons, List.length_map, List.length_nil, List.length_take, List.length_drop]; omega))) only [↓zpre, zpost, cst1, ↓reduceIte, Nat.reduceEqDiff, Nat.reduceAdd, Nat.reduceLT, Nat.reduceLeDiff, Nat.reduceMul, Nat.reduceSub, Int.reduceToNat, Int.reduceAdd, Int.reduceSub, Int.reduceMul, Int.reduceNeg, Int.reduceLE, Int.reduceLT, Int.reduceEq, Int.reduceBEq, Int.reduceBNe, Nat.reduceBEq, Nat.reduceBNe, aBin, aInt, aStr, aUn, aConv, aNil, aFldAddr, aFld, aIdxAddr, aIdx, aBui, aLoad, aStore, aLits, aLit, aMake, aBytes, aApp, srcOf, aSlice, aBound, modeCut, apart, aSet, aFill, aval, aGd, ACall, AV.wk, AV.wk2, AV.wk1, AV.cells, AV.solid, AV.ro, AV.ro1, ← List.map_take, ← List.map_drop, reduceCtorEq, tf0, tf1, tf2, tf3, tf4, tf5, tf6, tf7, tf8, List.length_reverse, el, hl, ht])
          refine call_pure (rpre_c a q hc.1 hq) (by rfl) (by rfl) (by rfl) ?_
          (try simp only [AWs_eq, ARgs_eq, AOps_eq, iteP_true, iteP_false]); (try simp -implicitDefEqProofs (disch := (first | omega | (simp only [List.length_append, List.length_cons, List.length_map, List.length_nil, List.length_take, List.length_drop]; omega))) only [↓zpre, zpost, cst1, ↓reduceIte, Nat.reduceEqDiff, Nat.reduceAdd, Nat.reduceLT, Nat.reduceLeDiff, Nat.reduceMul, Nat.reduceSub, Int.reduceToNat, Int.reduceAdd, Int.reduceSub, Int.reduceMul, Int.reduceNeg, Int.reduceLE, Int.reduceLT, Int.reduceEq, Int.reduceBEq, Int.reduceBNe, Nat.reduceBEq, Nat.reduceBNe, aBin, aInt, aStr, aUn, aConv, aNil, aFldAddr, aFld, aIdxAddr, aIdx, aBui, aLoad, aStore, aLits, aLit, aMake, aBytes, aApp, srcOf, aSlice, aBound, modeCut, apart, aSet, aFill, aval, aGd, ACall, AV.wk, AV.wk2, AV.wk1, AV.cells, AV.solid, AV.ro, AV.ro1, ← List.map_take, ← List.map_drop, reduceCtorEq, tf0, tf1, tf2, tf3, tf4, tf5, tf6, tf7, tf8, List.length_reverse, el, hl, ht])
          exact ends_ret (κ := [0]) (by rfl) (subOk_one 0 (by rfl) (by simp [SObj.ren])) (by rfl) (by rfl) (by simp [resV, AV.ren, AV.r2, AV.r1, AV.r0, Mode.ren, idx, ↓upd_apply])
      · rw [if_neg hs]
        have hc := climb_len r (i - sp n) (n - sp n) x hx
        have hi' := ih (i - sp n) (n - sp n) x (by omega) (by omega) (by omega) hx hall'
        generalize climb r (i - sp n) (n - sp n) x = C at *
        obtain ⟨a, L, ok⟩ := C
        simp only at hc hi' ⊢
        have e1 : (i : Int) - (sp n : Int) = ((i - sp n : Nat) : Int) := by omega
        have e2 : (n : Int) - (sp n : Int) = ((n - sp n : Nat) : Int) := by omega
        (try simp only [AWs_eq, ARgs_eq, AOps_eq, iteP_true, iteP_false]); (try simp -implicitDefEqProofs (disch := (first | omega | (simp only [List.length_append, List.length_cons, List.length_map, List.length_nil, List.length_take, List.length_drop]; omega))) only [↓zpre, zpost, cst1, ↓reduceIte, Nat.reduceEqDiff, Nat.reduceAdd, Nat.reduceLT, Nat.reduceLeDiff, Nat.reduceMul, Nat.reduceSub, Int.reduceToNat, Int.reduceAdd, Int.reduceSub, Int.reduceMul, Int.reduceNeg, Int.reduceLE, Int.reduceLT, Int.reduceEq, Int.reduceBEq, Int.reduceBNe, Nat.reduceBEq, Nat.reduceBNe, aBin, aInt, aStr, aUn, aConv, aNil, aFldAddr, aFld, aIdxAddr, aIdx, aBui, aLoad, aStore, aLits, aLit, aMake, aBytes, aApp, srcOf, aSlice, aBound, modeCut, apart, aSet, aFill, aval, aGd, ACall, AV.wk, AV.wk2, AV.wk1, AV.cells, AV.solid, AV.ro, AV.ro1, ← List.map_take, ← List.map_drop, reduceCtorEq, tf0, tf1, tf2, tf3, tf4, tf5, tf6, tf7, tf8, List.length_reverse, el, hl, ht, e1, e2])
        refine call_mk hi' ?_
        cases ok
        · simp only [Bool.false_eq_true, if_false]
          (try simp only [AWs_eq, ARgs_eq, AOps_eq, iteP_true, iteP_false]); (try simp -implicitDefEqProofs (disch := (first | omega | (simp only [List.length_append, List.length_cons, List.length_map, List.length_nil, List.length_take, List.length_drop]; omega))) only [↓zpre, zpost, cst1, ↓reduceIte, Nat.reduceEqDiff, Nat.reduceAdd, Nat.reduceLT, Nat.reduceLeDiff, Nat.reduceMul, Nat.reduceSub, Int.reduceToNat, Int.reduceAdd, Int.reduceSub, Int.reduceMul, Int.reduceNeg, Int.reduceLE, Int.reduceLT, Int.reduceEq, Int.reduceBEq, Int.reduceBNe, Nat.reduceBEq, Nat.reduceBNe, aBin, aInt, aStr, aUn, aConv, aNil, aFldAddr, aFld, aIdxAddr, aIdx, aBui, aLoad, aStore, aLits, aLit, aMake, aBytes, aApp, srcOf, aSlice, aBound, modeCut, apart, aSet, aFill, aval, aGd, ACall, AV.wk, AV.wk2, AV.wk1, AV.cells, AV.solid, AV.ro, AV.ro1, ← List.map_take, ← List.map_drop, reduceCtorEq, tf0, tf1, tf2, tf3, tf4, tf5, tf6, tf7, tf8, List.length_reverse, el, hl, ht])
          refine ends_retW _ _ (Weak.reserve _ 9 (es := []) (by rfl) 9 1) [1] (by rfl) (subOk_one 1 (by rfl) (by rfl)) (by rfl) (by rfl) (by rfl)
        · rw [if_pos rfl]
          (try simp only [AWs_eq, ARgs_eq, AOps_eq, iteP_true, iteP_false]); (try simp -implicitDefEqProofs (disch := (first | omega | (simp only [List.length_append, List.length_cons, List.length_map, List.length_nil, List.length_take, List.length_drop]; omega))) only [↓zpre, zpost, cst1, ↓reduceIte, Nat.reduceEqDiff, Nat.reduceAdd, Nat.reduceLT, Nat.reduceLeDiff, Nat.reduceMul, Nat.reduceSub, Int.reduceToNat, Int.reduceAdd, Int.reduceSub, Int.reduceMul, Int.reduceNeg, Int.reduceLE, Int.reduceLT, Int.reduceEq, Int.reduceBEq, Int.reduceBNe, Nat.reduceBEq, Nat.reduceBNe, aBin, aInt, aStr, aUn, aConv, aNil, aFldAddr, aFld, aIdxAddr, aIdx, aBui, aLoad, aStore, aLits, aLit, aMake, aBytes, aApp, srcOf, aSlice, aBound, modeCut, apart, aSet, aFill, aval, aGd, ACall, AV.wk, AV.wk2, AV.wk1, AV.cells, AV.solid, AV.ro, AV.ro1, ← List.map_take, ← List.map_drop, reduceCtorEq, tf0, tf1, tf2, tf3, tf4, tf5, tf6, tf7, tf8, List.length_reverse, el, hl, ht])
          refine call_pure (rnode_c q a hq hc.1) (by rfl) (by rfl) (by rfl) ?_
          (try simp only [AWs_eq, ARgs_eq, AOps_eq, iteP_true, iteP_false]); (try simp -implicitDefEqProofs (disch := (first | omega | (simp only [List.length_append, List.length_cons, List.length_map, List.length_nil, List.length_take, List.length_drop]; omega))) only [↓zpre, zpost, cst1, ↓reduceIte, Nat.reduceEqDiff, Nat.reduceAdd, Nat.reduceLT, Nat.reduceLeDiff, Nat.reduceMul, Nat.reduceSub, Int.reduceToNat, Int.reduceAdd, Int.reduceSub, Int.reduceMul, Int.reduceNeg, Int.reduceLE, Int.reduceLT, Int.reduceEq, Int.reduceBEq, Int.reduceBNe, Nat.reduceBEq, Nat.reduceBNe, aBin, aInt, aStr, aUn, aConv, aNil, aFldAddr, aFld, aIdxAddr, aIdx, aBui, aLoad, aStore, aLits, aLit, aMake, aBytes, aApp, srcOf, aSlice, aBound, modeCut, apart, aSet, aFill, aval, aGd, ACall, AV.wk, AV.wk2, AV.wk1, AV.cells, AV.solid, AV.ro, AV.ro1, ← List.map_take, ← List.map_drop, reduceCtorEq, tf0, tf1, tf2, tf3, tf4, tf5, tf6, tf7, tf8, List.length_reverse, el, hl, ht])
          refine call_pure (rpre_c q a hq hc.1) (by rfl) (by rfl) (by rfl) ?_
          (try simp only [AWs_eq, ARgs_eq, AOps_eq, iteP_true, iteP_false]); (try simp -implicitDefEqProofs (disch := (first | omega | (simp only [List.length_append, List.length_cons, List.length_map, List.length_nil, List.length_take, List.length_drop]; omega))) only [↓zpre, zpost, cst1, ↓reduceIte, Nat.reduceEqDiff, Nat.reduceAdd, Nat.reduceLT, Nat.reduceLeDiff, Nat.reduceMul, Nat.reduceSub, Int.reduceToNat, Int.reduceAdd, Int.reduceSub, Int.reduceMul, Int.reduceNeg, Int.reduceLE, Int.reduceLT, Int.reduceEq, Int.reduceBEq, Int.reduceBNe, Nat.reduceBEq, Nat.reduceBNe, aBin, aInt, aStr, aUn, aConv, aNil, aFldAddr, aFld, aIdxAddr, aIdx, aBui, aLoad, aStore, aLits, aLit, aMake, aBytes, aApp, srcOf, aSlice, aBound, modeCut, apart, aSet, aFill, aval, aGd, ACall, AV.wk, AV.wk2, AV.wk1, AV.cells, AV.solid, AV.ro, AV.ro1, ← List.map_take, ← List.map_drop, reduceCtorEq, tf0, tf1, tf2, tf3, tf4, tf5, tf6, tf7, tf8, List.length_reverse, el, hl, ht])
          exact ends_ret (κ := [0]) (by rfl) (subOk_one 0 (by rfl) (by simp [SObj.ren])) (by rfl) (by rfl) (by simp [resV, AV.ren, AV.r2, AV.r1, AV.r0, Mode.ren, idx, ↓upd_apply])
end Go.Proofs.YthnolonphjfoeaaDoor.Pe
/- The walk of the reference: Inputs, Clash. -/
namespace Go.Proofs.YthnolonphjfoeaaDoor.Pe
set_option linter.unusedSectionVars false
set_option linter.unusedVariables false
set_option linter.unusedSimpArgs false
open Go Sm Mk
set_option maxRecDepth 100000
theorem inputs_len (k : Nat) : ∀ (l : List By), l.length ≤ k → (inputs l).length ≤ l.length - 1 := by
  induction k with
  | zero => intro l h; rw [inputs_one (by omega)]; simp
  | succ k ih =>
    intro l h
    by_cases h2 : 2 ≤ l.length
    · have h3 := sp_lt h2
      have h4 := sp_pos l.length
      have ht : (l.take (sp l.length)).length = sp l.length := by simp; omega
      have hd : (l.drop (sp l.length)).length = l.length - sp l.length := List.length_drop
      rw [inputs_two h2]
      have a1 := ih (l.take (sp l.length)) (by omega)
      have a2 := ih (l.drop (sp l.length)) (by omega)
      simp only [List.length_append, List.length_cons, List.length_nil]
      omega
    · rw [inputs_one (by omega)]; simp
theorem inputs_c (k : Nat) : ∀ (l : List By), l.length ≤ k → l.length ≤ 1000000 → (∀ x ∈ l, x.length ≤ 1000000) →
    AC Tryd.prog 24 [sls l] [] (.sl (.own 0) ((inputs l).map .st)) [.buf (inputs l).length 9 1] := by
  induction k with
  | zero =>
    intro l hk hl hx
    refine AC.enter [34, 16, 41] [] Tryd.func24 rfl (by decide) (by decide) (Nat.le_of_ble_eq_true rfl) (by kernel_rfl) ?_; simp only [eraseC, eraseO, List.map_cons, List.map_nil, List.map_toArray, List.getElem?_toArray, List.getElem?_cons_zero, List.getElem?_cons_succ, Option.bind_some, Option.bind_none]
    rw [inputs_one (by omega)]
    (try simp only [AWs_eq, ARgs_eq, AOps_eq, iteP_true, iteP_false]); (try simp -implicitDefEqProofs (disch := (first | omega | (simp only [List.length_append, List.length_cons, List.length_map, List.length_nil, List.length_take, List.length_drop]; omega))) only [↓zpre, zpost, cst1, ↓reduceIte, Nat.reduceEqDiff, Nat.reduceAdd, Nat.reduceLT, Nat.reduceLeDiff, Nat.reduceMul, Nat.reduceSub, Int.reduceToNat, Int.reduceAdd, Int.reduceSub, Int.reduceMul, Int.reduceNeg, Int.reduceLE, Int.reduceLT, Int.reduceEq, Int.reduceBEq, Int.reduceBNe, Nat.reduceBEq, Nat.reduceBNe, aBin, aInt, aStr, aUn, aConv, aNil, aFldAddr, aFld, aIdxAddr, aIdx, aBui, aLoad, aStore, aLits, aLit, aMake, aBytes, aApp, srcOf, aSlice, aBound, modeCut, apart, aSet, aFill, aval, aGd, ACall, AV.wk, AV.wk2, AV.wk1, AV.cells, AV.solid, AV.ro, AV.ro1, ← List.map_take, ← List.map_drop, reduceCtorEq, tf0, tf1, tf2, tf3, tf4, tf5, tf6, tf7, tf8])
    refine ends_retW _ _ (Weak.reserve _ 2 (es := []) (by rfl) 9 1) [0] (by rfl) (subOk_one 0 (by rfl) (by rfl)) (by rfl) (by rfl) (by rfl)
  | succ k ih =>
    intro l hk hl hx
    refine AC.enter [34, 16, 41] [] Tryd.func24 rfl (by decide) (by decide) (Nat.le_of_ble_eq_true rfl) (by kernel_rfl) ?_; simp only [eraseC, eraseO, List.map_cons, List.map_nil, List.map_toArray, List.getElem?_toArray, List.getElem?_cons_zero, List.getElem?_cons_succ, Option.bind_some, Option.bind_none]
    by_cases h2 : l.length < 2
    · rw [inputs_one h2]
      (try simp only [AWs_eq, ARgs_eq, AOps_eq, iteP_true, iteP_false]); (try simp -implicitDefEqProofs (disch := (first | omega | (simp only [List.length_append, List.length_cons, List.length_map, List.length_nil, List.length_take, List.length_drop]; omega))) only [↓zpre, zpost, cst1, ↓reduceIte, Nat.reduceEqDiff, Nat.reduceAdd, Nat.reduceLT, Nat.reduceLeDiff, Nat.reduceMul, Nat.reduceSub, Int.reduceToNat, Int.reduceAdd, Int.reduceSub, Int.reduceMul, Int.reduceNeg, Int.reduceLE, Int.reduceLT, Int.reduceEq, Int.reduceBEq, Int.reduceBNe, Nat.reduceBEq, Nat.reduceBNe, aBin, aInt, aStr, aUn, aConv, aNil, aFldAddr, aFld, aIdxAddr, aIdx, aBui, aLoad, aStore, aLits, aLit, aMake, aBytes, aApp, srcOf, aSlice, aBound, modeCut, apart, aSet, aFill, aval, aGd, ACall, AV.wk, AV.wk2, AV.wk1, AV.cells, AV.solid, AV.ro, AV.ro1, ← List.map_take, ← List.map_drop, reduceCtorEq, tf0, tf1, tf2, tf3, tf4, tf5, tf6, tf7, tf8])
      refine ends_retW _ _ (Weak.reserve _ 2 (es := []) (by rfl) 9 1) [0] (by rfl) (subOk_one 0 (by rfl) (by rfl)) (by rfl) (by rfl) (by rfl)
    · have h2 : 2 ≤ l.length := by omega
      have h3 := sp_lt h2
      have h4 := sp_pos l.length
      have ht : (List.take (sp l.length) l).length = sp l.length := by simp; omega
      have hd : (l.drop (sp l.length)).length = l.length - sp l.length := List.length_drop
      have hxt : ∀ x ∈ l.take (sp l.length), x.length ≤ 1000000 := fun x hx' => hx x (List.mem_of_mem_take hx')
      have hxd : ∀ x ∈ l.drop (sp l.length), x.length ≤ 1000000 := fun x hx' => hx x (List.mem_of_mem_drop hx')
      have f1 := rroot_c _ (l.take (sp l.length)) (Nat.le_refl _) (by omega) hxt
      have f2 := rroot_c _ (l.drop (sp l.length)) (Nat.le_refl _) (by omega) hxd
      rw [root_rt (by omega)] at f1 f2
      have a1 := inputs_len _ (l.take (sp l.length)) (Nat.le_refl _)
      have a2 := inputs_len _ (l.drop (sp l.length)) (Nat.le_refl _)
      have g1 := ih (l.take (sp l.length)) (by omega) (by omega) hxt
      have g2 := ih (l.drop (sp l.length)) (by omega) (by omega) hxd
      have hpp := rpre_c _ _ (rt_len hxt) (rt_len hxd)
      rw [inputs_two h2]
      generalize inputs (l.take (sp l.length)) = I1 at *
      generalize inputs (l.drop (sp l.length)) = I2 at *
      generalize rt (l.take (sp l.length)) = R1 at *
      generalize rt (l.drop (sp l.length)) = R2 at *
      have g2' : AC Tryd.prog 24 [sls (l.drop (sp l.length))] [.buf I1.length 9 1] (.sl (.own 1) (I2.map .st)) [.buf I1.length 9 1, .buf I2.length 9 1] := AC.fresh1 g2 (by rfl) (by rfl) (by rfl) [.buf I1.length 9 1]
      (try simp only [AWs_eq, ARgs_eq, AOps_eq, iteP_true, iteP_false]); (try simp -implicitDefEqProofs (disch := (first | omega | (simp only [List.length_append, List.length_cons, List.length_map, List.length_nil, List.length_take, List.length_drop]; omega))) only [↓zpre, zpost, cst1, ↓reduceIte, Nat.reduceEqDiff, Nat.reduceAdd, Nat.reduceLT, Nat.reduceLeDiff, Nat.reduceMul, Nat.reduceSub, Int.reduceToNat, Int.reduceAdd, Int.reduceSub, Int.reduceMul, Int.reduceNeg, Int.reduceLE, Int.reduceLT, Int.reduceEq, Int.reduceBEq, Int.reduceBNe, Nat.reduceBEq, Nat.reduceBNe, aBin, aInt, aStr, aUn, aConv, aNil, aFldAddr, aFld, aIdxAddr, aIdx, aBui, aLoad, aStore, aLits, aLit, aMake, aBytes, aApp, srcOf, aSlice, aBound, modeCut, apart, aSet, aFill, aval, aGd, ACall, AV.wk, AV.wk2, AV.wk1, AV.cells, AV.solid, AV.ro, AV.ro1, ← List.map_take, ← List.map_drop, reduceCtorEq, tf0, tf1, tf2, tf3, tf4, tf5, tf6, tf7, tf8])
      refine call_pure (rsplit_c l.length h2 (by omega)) (by rfl) (by rfl) (by rfl) ?_
      (try simp only [AWs_eq, ARgs_eq, AOps_eq, iteP_true, iteP_false]); (try simp -implicitDefEqProofs (disch := (first | omega | (simp only [List.length_append, List.length_cons, List.length_map, List.length_nil, List.length_take, List.length_drop]; omega))) only [↓zpre, zpost, cst1, ↓reduceIte, Nat.reduceEqDiff, Nat.reduceAdd, Nat.reduceLT, Nat.reduceLeDiff, Nat.reduceMul, Nat.reduceSub, Int.reduceToNat, Int.reduceAdd, Int.reduceSub, Int.reduceMul, Int.reduceNeg, Int.reduceLE, Int.reduceLT, Int.reduceEq, Int.reduceBEq, Int.reduceBNe, Nat.reduceBEq, Nat.reduceBNe, aBin, aInt, aStr, aUn, aConv, aNil, aFldAddr, aFld, aIdxAddr, aIdx, aBui, aLoad, aStore, aLits, aLit, aMake, aBytes, aApp, srcOf, aSlice, aBound, modeCut, apart, aSet, aFill, aval, aGd, ACall, AV.wk, AV.wk2, AV.wk1, AV.cells, AV.solid, AV.ro, AV.ro1, ← List.map_take, ← List.map_drop, reduceCtorEq, tf0, tf1, tf2, tf3, tf4, tf5, tf6, tf7, tf8, List.take_length])
      refine call_mk g1 ?_
      (try simp only [AWs_eq, ARgs_eq, AOps_eq, iteP_true, iteP_false]); (try simp -implicitDefEqProofs (disch := (first | omega | (simp only [List.length_append, List.length_cons, List.length_map, List.length_nil, List.length_take, List.length_drop]; omega))) only [↓zpre, zpost, cst1, ↓reduceIte, Nat.reduceEqDiff, Nat.reduceAdd, Nat.reduceLT, Nat.reduceLeDiff, Nat.reduceMul, Nat.reduceSub, Int.reduceToNat, Int.reduceAdd, Int.reduceSub, Int.reduceMul, Int.reduceNeg, Int.reduceLE, Int.reduceLT, Int.reduceEq, Int.reduceBEq, Int.reduceBNe, Nat.reduceBEq, Nat.reduceBNe, aBin, aInt, aStr, aUn, aConv, aNil, aFldAddr, aFld, aIdxAddr, aIdx, aBui, aLoad, aStore, aLits, aLit, aMake, aBytes, aApp, srcOf, aSlice, aBound, modeCut, apart, aSet, aFill, aval, aGd, ACall, AV.wk, AV.wk2, AV.wk1, AV.cells, AV.solid, AV.ro, AV.ro1, ← List.map_take, ← List.map_drop, reduceCtorEq, tf0, tf1, tf2, tf3, tf4, tf5, tf6, tf7, tf8, List.take_length])
      refine call_mk g2' ?_
      (try simp only [AWs_eq, ARgs_eq, AOps_eq, iteP_true, iteP_false]); (try simp -implicitDefEqProofs (disch := (first | omega | (simp only [List.length_append, List.length_cons, List.length_map, List.length_nil, List.length_take, List.length_drop]; omega))) only [↓zpre, zpost, cst1, ↓reduceIte, Nat.reduceEqDiff, Nat.reduceAdd, Nat.reduceLT, Nat.reduceLeDiff, Nat.reduceMul, Nat.reduceSub, Int.reduceToNat, Int.reduceAdd, Int.reduceSub, Int.reduceMul, Int.reduceNeg, Int.reduceLE, Int.reduceLT, Int.reduceEq, Int.reduceBEq, Int.reduceBNe, Nat.reduceBEq, Nat.reduceBNe, aBin, aInt, aStr, aUn, aConv, aNil, aFldAddr, aFld, aIdxAddr, aIdx, aBui, aLoad, aStore, aLits, aLit, aMake, aBytes, aApp, srcOf, aSlice, aBound, modeCut, apart, aSet, aFill, aval, aGd, ACall, AV.wk, AV.wk2, AV.wk1, AV.cells, AV.solid, AV.ro, AV.ro1, ← List.map_take, ← List.map_drop, reduceCtorEq, tf0, tf1, tf2, tf3, tf4, tf5, tf6, tf7, tf8, List.take_length])
      refine call_pure f1 (by rfl) (by rfl) (by rfl) ?_
      (try simp only [AWs_eq, ARgs_eq, AOps_eq, iteP_true, iteP_false]); (try simp -implicitDefEqProofs (disch := (first | omega | (simp only [List.length_append, List.length_cons, List.length_map, List.length_nil, List.length_take, List.length_drop]; omega))) only [↓zpre, zpost, cst1, ↓reduceIte, Nat.reduceEqDiff, Nat.reduceAdd, Nat.reduceLT, Nat.reduceLeDiff, Nat.reduceMul, Nat.reduceSub, Int.reduceToNat, Int.reduceAdd, Int.reduceSub, Int.reduceMul, Int.reduceNeg, Int.reduceLE, Int.reduceLT, Int.reduceEq, Int.reduceBEq, Int.reduceBNe, Nat.reduceBEq, Nat.reduceBNe, aBin, aInt, aStr, aUn, aConv, aNil, aFldAddr, aFld, aIdxAddr, aIdx, aBui, aLoad, aStore, aLits, aLit, aMake, aBytes, aApp, srcOf, aSlice, aBound, modeCut, apart, aSet, aFill, aval, aGd, ACall, AV.wk, AV.wk2, AV.wk1, AV.cells, AV.solid, AV.ro, AV.ro1, ← List.map_take, ← List.map_drop, reduceCtorEq, tf0, tf1, tf2, tf3, tf4, tf5, tf6, tf7, tf8, List.take_length])
      refine call_pure f2 (by rfl) (by rfl) (by rfl) ?_
      (try simp only [AWs_eq, ARgs_eq, AOps_eq, iteP_true, iteP_false]); (try simp -implicitDefEqProofs (disch := (first | omega | (simp only [List.length_append, List.length_cons, List.length_map, List.length_nil, List.length_take, List.length_drop]; omega))) only [↓zpre, zpost, cst1, ↓reduceIte, Nat.reduceEqDiff, Nat.reduceAdd, Nat.reduceLT, Nat.reduceLeDiff, Nat.reduceMul, Nat.reduceSub, Int.reduceToNat, Int.reduceAdd, Int.reduceSub, Int.reduceMul, Int.reduceNeg, Int.reduceLE, Int.reduceLT, Int.reduceEq, Int.reduceBEq, Int.reduceBNe, Nat.reduceBEq, Nat.reduceBNe, aBin, aInt, aStr, aUn, aConv, aNil, aFldAddr, aFld, aIdxAddr, aIdx, aBui, aLoad, aStore, aLits, aLit, aMake, aBytes, aApp, srcOf, aSlice, aBound, modeCut, apart, aSet, aFill, aval, aGd, ACall, AV.wk, AV.wk2, AV.wk1, AV.cells, AV.solid, AV.ro, AV.ro1, ← List.map_take, ← List.map_drop, reduceCtorEq, tf0, tf1, tf2, tf3, tf4, tf5, tf6, tf7, tf8])
      refine call_pure hpp (by rfl) (by rfl) (by rfl) ?_
      (try simp only [AWs_eq, ARgs_eq, AOps_eq, iteP_true, iteP_false]); (try simp -implicitDefEqProofs (disch := (first | omega | (simp only [List.length_append, List.length_cons, List.length_map, List.length_nil, List.length_take, List.length_drop]; omega))) only [↓zpre, zpost, cst1, ↓reduceIte, Nat.reduceEqDiff, Nat.reduceAdd, Nat.reduceLT, Nat.reduceLeDiff, Nat.reduceMul, Nat.reduceSub, Int.reduceToNat, Int.reduceAdd, Int.reduceSub, Int.reduceMul, Int.reduceNeg, Int.reduceLE, Int.reduceLT, Int.reduceEq, Int.reduceBEq, Int.reduceBNe, Nat.reduceBEq, Nat.reduceBNe, aBin, aInt, aStr, aUn, aConv, aNil, aFldAddr, aFld, aIdxAddr, aIdx, aBui, aLoad, aStore, aLits, aLit, aMake, aBytes, aApp, srcOf, aSlice, aBound, modeCut, apart, aSet, aFill, aval, aGd, ACall, AV.wk, AV.wk2, AV.wk1, AV.cells, AV.solid, AV.ro, AV.ro1, ← List.map_take, ← List.map_drop, reduceCtorEq, tf0, tf1, tf2, tf3, tf4, tf5, tf6, tf7, tf8])
      exact ends_ret (κ := [0]) (by rfl) (subOk_one 0 (by rfl) (by simp [SObj.ren])) (by rfl) (by rfl) (by simp [resV, AV.ren, AV.r2, AV.r1, AV.r0, Mode.ren, idx, ↓upd_apply])
/-- whether two different strings of a list have the same digest -/
noncomputable def clashB (l : List By) : Bool := @decide (Clash l) (Classical.propDecidable _)
theorem clashB_t {l : List By} (h : Clash l) : clashB l = true := @decide_eq_true _ (Classical.propDecidable _) h
theorem clashB_f {l : List By} (h : ¬ Clash l) : clashB l = false := @decide_eq_false _ (Classical.propDecidable _) h
theorem clash_c (l : List By) (hl : l.length ≤ 1000000) (hx : ∀ x ∈ l, x.length ≤ 1000000) : AC Tryd.prog 25 [sls l] [] (.bo (clashB l)) [] := by
  refine AC.enter [28] [] Tryd.func25 rfl (by decide) (by decide) (Nat.le_of_ble_eq_true rfl) (by kernel_rfl) ?_; simp only [eraseC, eraseO, List.map_cons, List.map_nil, List.map_toArray, List.getElem?_toArray, List.getElem?_cons_zero, List.getElem?_cons_succ, Option.bind_some, Option.bind_none]
  (try simp only [AWs_eq, ARgs_eq, AOps_eq, iteP_true, iteP_false]); (try simp -implicitDefEqProofs (disch := (first | omega | (simp only [List.length_append, List.length_cons, List.length_map, List.length_nil, List.length_take, List.length_drop]; omega))) only [↓zpre, zpost, cst1, ↓reduceIte, Nat.reduceEqDiff, Nat.reduceAdd, Nat.reduceLT, Nat.reduceLeDiff, Nat.reduceMul, Nat.reduceSub, Int.reduceToNat, Int.reduceAdd, Int.reduceSub, Int.reduceMul, Int.reduceNeg, Int.reduceLE, Int.reduceLT, Int.reduceEq, Int.reduceBEq, Int.reduceBNe, Nat.reduceBEq, Nat.reduceBNe, aBin, aInt, aStr, aUn, aConv, aNil, aFldAddr, aFld, aIdxAddr, aIdx, aBui, aLoad, aStore, aLits, aLit, aMake, aBytes, aApp, srcOf, aSlice, aBound, modeCut, apart, aSet, aFill, aval, aGd, ACall, AV.wk, AV.wk2, AV.wk1, AV.cells, AV.solid, AV.ro, AV.ro1, ← List.map_take, ← List.map_drop, reduceCtorEq, tf0, tf1, tf2, tf3, tf4, tf5, tf6, tf7, tf8])
  refine loop_mk' (fun m e S => e 0 = sls l ∧ ∃ k, e 4 = .it .i64 ((k : Nat) : Int) ∧ e 3 = .sl (.own 0) (((l.take k).map sha).map .st) ∧ S = [.buf k 9 1] ∧ k ≤ l.length ∧ (∀ i j x y, i < j → j < k → l[i]? = some x → l[j]? = some y → sha x = sha y → x = y) ∧ m = l.length - k) l.length _ _ (Weak.reserve 0 3 (es := []) (by rfl) 9 1) ⟨(by first | rfl | (simp only [↓upd_apply, ↓put_some, ↓reduceIte, Nat.reduceEqDiff, ↓argEnv_zero, ↓argEnv_succ, *]; done)), 0, (by first | rfl | (simp only [↓upd_apply, ↓put_some, ↓reduceIte, Nat.reduceEqDiff, ↓argEnv_zero, ↓argEnv_succ, *]; done)), (by first | rfl | (simp only [↓upd_apply, ↓put_some, ↓reduceIte, Nat.reduceEqDiff, ↓argEnv_zero, ↓argEnv_succ, *]; done)), rfl, by omega, fun i j x y h1 h2 => by omega, rfl⟩ ?_
  rintro m e S ⟨s0, k, s4, s3, rfl, hk, hno, rfl⟩
  have hlen : ((l.take k).map sha).length = k := by simp; omega
  by_cases hlt : k < l.length
  rotate_left
  · have hge : k = l.length := by omega
    have : clashB l = false := by
      refine clashB_f ?_
      rintro ⟨x, y, hx1, hy1, hne, he⟩
      obtain ⟨i, hi, rfl⟩ := List.getElem_of_mem hx1
      obtain ⟨j, hj, rfl⟩ := List.getElem_of_mem hy1
      rcases Nat.lt_trichotomy i j with h | h | h
      · exact hne (hno i j _ _ h (by omega) (List.getElem?_eq_getElem hi) (List.getElem?_eq_getElem hj) he)
      · subst h; exact hne rfl
      · exact hne (hno j i _ _ h (by omega) (List.getElem?_eq_getElem hj) (List.getElem?_eq_getElem hi) he.symm).symm
    rw [this]
    (try simp only [AWs_eq, ARgs_eq, AOps_eq, iteP_true, iteP_false]); (try simp -implicitDefEqProofs (disch := (first | omega | (simp only [List.length_append, List.length_cons, List.length_map, List.length_nil, List.length_take, List.length_drop]; omega))) only [↓zpre, zpost, cst1, ↓reduceIte, Nat.reduceEqDiff, Nat.reduceAdd, Nat.reduceLT, Nat.reduceLeDiff, Nat.reduceMul, Nat.reduceSub, Int.reduceToNat, Int.reduceAdd, Int.reduceSub, Int.reduceMul, Int.reduceNeg, Int.reduceLE, Int.reduceLT, Int.reduceEq, Int.reduceBEq, Int.reduceBNe, Nat.reduceBEq, Nat.reduceBNe, aBin, aInt, aStr, aUn, aConv, aNil, aFldAddr, aFld, aIdxAddr, aIdx, aBui, aLoad, aStore, aLits, aLit, aMake, aBytes, aApp, srcOf, aSlice, aBound, modeCut, apart, aSet, aFill, aval, aGd, ACall, AV.wk, AV.wk2, AV.wk1, AV.cells, AV.solid, AV.ro, AV.ro1, ← List.map_take, ← List.map_drop, reduceCtorEq, tf0, tf1, tf2, tf3, tf4, tf5, tf6, tf7, tf8, s0, s3, s4])
    exact ends_ret0 (by rfl) (by rfl) (by rfl)
  have ga : l[k]? = some l[k] := List.getElem?_eq_getElem hlt
  have hw : IntKind.i64.wrap ((k : Int) + 1) = ((k + 1 : Nat) : Int) := by rw [wrap64 (by omega) (by omega)]; rfl
  (try simp only [AWs_eq, ARgs_eq, AOps_eq, iteP_true, iteP_false]); (try simp -implicitDefEqProofs (disch := (first | omega | (simp only [List.length_append, List.length_cons, List.length_map, List.length_nil, List.length_take, List.length_drop]; omega))) only [↓zpre, zpost, cst1, ↓reduceIte, Nat.reduceEqDiff, Nat.reduceAdd, Nat.reduceLT, Nat.reduceLeDiff, Nat.reduceMul, Nat.reduceSub, Int.reduceToNat, Int.reduceAdd, Int.reduceSub, Int.reduceMul, Int.reduceNeg, Int.reduceLE, Int.reduceLT, Int.reduceEq, Int.reduceBEq, Int.reduceBNe, Nat.reduceBEq, Nat.reduceBNe, aBin, aInt, aStr, aUn, aConv, aNil, aFldAddr, aFld, aIdxAddr, aIdx, aBui, aLoad, aStore, aLits, aLit, aMake, aBytes, aApp, srcOf, aSlice, aBound, modeCut, apart, aSet, aFill, aval, aGd, ACall, AV.wk, AV.wk2, AV.wk1, AV.cells, AV.solid, AV.ro, AV.ro1, ← List.map_take, ← List.map_drop, reduceCtorEq, tf0, tf1, tf2, tf3, tf4, tf5, tf6, tf7, tf8, s0, s3, s4, ga])
  refine call_pure (rsha_c l[k] (by have := hx l[k] (List.getElem_mem hlt); omega)) (by rfl) (by rfl) (by rfl) ?_
  (try simp only [AWs_eq, ARgs_eq, AOps_eq, iteP_true, iteP_false]); (try simp -implicitDefEqProofs (disch := (first | omega | (simp only [List.length_append, List.length_cons, List.length_map, List.length_nil, List.length_take, List.length_drop]; omega))) only [↓zpre, zpost, cst1, ↓reduceIte, Nat.reduceEqDiff, Nat.reduceAdd, Nat.reduceLT, Nat.reduceLeDiff, Nat.reduceMul, Nat.reduceSub, Int.reduceToNat, Int.reduceAdd, Int.reduceSub, Int.reduceMul, Int.reduceNeg, Int.reduceLE, Int.reduceLT, Int.reduceEq, Int.reduceBEq, Int.reduceBNe, Nat.reduceBEq, Nat.reduceBNe, aBin, aInt, aStr, aUn, aConv, aNil, aFldAddr, aFld, aIdxAddr, aIdx, aBui, aLoad, aStore, aLits, aLit, aMake, aBytes, aApp, srcOf, aSlice, aBound, modeCut, apart, aSet, aFill, aval, aGd, ACall, AV.wk, AV.wk2, AV.wk1, AV.cells, AV.solid, AV.ro, AV.ro1, ← List.map_take, ← List.map_drop, reduceCtorEq, tf0, tf1, tf2, tf3, tf4, tf5, tf6, tf7, tf8, s0, s3, s4, ga, hlen, List.length_take])
  refine loop_mk (fun m e S => e 0 = sls l ∧ e 4 = .it .i64 ((k : Nat) : Int) ∧ e 3 = .sl (.own 0) (((l.take (k + 1)).map sha).map .st) ∧ S = [.buf (k + 1) 9 1] ∧ ∃ i, e 5 = .it .i64 ((i : Nat) : Int) ∧ i ≤ k ∧ (∀ j x, j < i → l[j]? = some x → sha x = sha l[k] → x = l[k]) ∧ m = k - i) k ⟨(by first | rfl | (simp only [↓upd_apply, ↓put_some, ↓reduceIte, Nat.reduceEqDiff, ↓argEnv_zero, ↓argEnv_succ, *]; done)), (by first | rfl | (simp only [↓upd_apply, ↓put_some, ↓reduceIte, Nat.reduceEqDiff, ↓argEnv_zero, ↓argEnv_succ, *]; done)), by rw [List.take_succ_eq_append_getElem hlt, List.map_append, List.map_append]; exact (by first | rfl | (simp only [↓upd_apply, ↓put_some, ↓reduceIte, Nat.reduceEqDiff, ↓argEnv_zero, ↓argEnv_succ, *]; done)), by first | rfl | (rw [hlen]) | (simp; omega), 0, (by first | rfl | (simp only [↓upd_apply, ↓put_some, ↓reduceIte, Nat.reduceEqDiff, ↓argEnv_zero, ↓argEnv_succ, *]; done)), by omega, fun j x h1 => by omega, rfl⟩ ?_
  rintro m e S ⟨s0, s4, s3, rfl, i, s5, hi, hin, rfl⟩
  by_cases hik : i < k
  · have gi : l[i]? = some (l[i]'(by omega)) := List.getElem?_eq_getElem (by omega)
    have gsk : ((l.take (k + 1)).map sha)[k]? = some (sha l[k]) := by rw [List.getElem?_map, List.getElem?_take_of_lt (by omega), ga]; rfl
    have gsi : ((l.take (k + 1)).map sha)[i]? = some (sha (l[i]'(by omega))) := by rw [List.getElem?_map, List.getElem?_take_of_lt (by omega), gi]; rfl
    have hlen1 : ((l.take (k + 1)).map sha).length = k + 1 := by simp; omega
    by_cases he : l[k] = l[i]'(by omega)
    · have he' : (l[k] == l[i]'(by omega)) = true := by simp [he]
      (try simp only [AWs_eq, ARgs_eq, AOps_eq, iteP_true, iteP_false]); (try simp -implicitDefEqProofs (disch := (first | omega | (simp only [List.length_append, List.length_cons, List.length_map, List.length_nil, List.length_take, List.length_drop]; omega))) only [↓zpre, zpost, cst1, ↓reduceIte, Nat.reduceEqDiff, Nat.reduceAdd, Nat.reduceLT, Nat.reduceLeDiff, Nat.reduceMul, Nat.reduceSub, Int.reduceToNat, Int.reduceAdd, Int.reduceSub, Int.reduceMul, Int.reduceNeg, Int.reduceLE, Int.reduceLT, Int.reduceEq, Int.reduceBEq, Int.reduceBNe, Nat.reduceBEq, Nat.reduceBNe, aBin, aInt, aStr, aUn, aConv, aNil, aFldAddr, aFld, aIdxAddr, aIdx, aBui, aLoad, aStore, aLits, aLit, aMake, aBytes, aApp, srcOf, aSlice, aBound, modeCut, apart, aSet, aFill, aval, aGd, ACall, AV.wk, AV.wk2, AV.wk1, AV.cells, AV.solid, AV.ro, AV.ro1, ← List.map_take, ← List.map_drop, reduceCtorEq, tf0, tf1, tf2, tf3, tf4, tf5, tf6, tf7, tf8, s0, s3, s4, s5, ga, gi, he'])
      exact round_mk (k - (i + 1)) (by omega) ⟨(by first | rfl | (simp only [↓upd_apply, ↓put_some, ↓reduceIte, Nat.reduceEqDiff, ↓argEnv_zero, ↓argEnv_succ, *]; done)), (by first | rfl | (simp only [↓upd_apply, ↓put_some, ↓reduceIte, Nat.reduceEqDiff, ↓argEnv_zero, ↓argEnv_succ, *]; done)), (by first | rfl | (simp only [↓upd_apply, ↓put_some, ↓reduceIte, Nat.reduceEqDiff, ↓argEnv_zero, ↓argEnv_succ, *]; done)), rfl, i + 1, (by first | rfl | (simp only [↓upd_apply, ↓put_some, ↓reduceIte, Nat.reduceEqDiff, ↓argEnv_zero, ↓argEnv_succ, *]; done)), by omega, fun j x h1 h2 h3 => by
        by_cases hj : j = i
        · subst hj; rw [gi] at h2; cases h2; exact he.symm
        · exact hin j x (by omega) h2 h3, rfl⟩
    · have he' : (l[k] == l[i]'(by omega)) = false := by simp [he]
      by_cases hs : sha l[k] = sha (l[i]'(by omega))
      · have hs' : (sha l[k] == sha (l[i]'(by omega))) = true := by simp [hs]
        have : clashB l = true := clashB_t (by
          exact ⟨_, _, List.getElem_mem hlt, List.getElem_mem (by omega), he, hs⟩)
        rw [this]
        (try simp only [AWs_eq, ARgs_eq, AOps_eq, iteP_true, iteP_false]); (try simp -implicitDefEqProofs (disch := (first | omega | (simp only [List.length_append, List.length_cons, List.length_map, List.length_nil, List.length_take, List.length_drop]; omega))) only [↓zpre, zpost, cst1, ↓reduceIte, Nat.reduceEqDiff, Nat.reduceAdd, Nat.reduceLT, Nat.reduceLeDiff, Nat.reduceMul, Nat.reduceSub, Int.reduceToNat, Int.reduceAdd, Int.reduceSub, Int.reduceMul, Int.reduceNeg, Int.reduceLE, Int.reduceLT, Int.reduceEq, Int.reduceBEq, Int.reduceBNe, Nat.reduceBEq, Nat.reduceBNe, aBin, aInt, aStr, aUn, aConv, aNil, aFldAddr, aFld, aIdxAddr, aIdx, aBui, aLoad, aStore, aLits, aLit, aMake, aBytes, aApp, srcOf, aSlice, aBound, modeCut, apart, aSet, aFill, aval, aGd, ACall, AV.wk, AV.wk2, AV.wk1, AV.cells, AV.solid, AV.ro, AV.ro1, ← List.map_take, ← List.map_drop, reduceCtorEq, tf0, tf1, tf2, tf3, tf4, tf5, tf6, tf7, tf8, s0, s3, s4, s5, ga, gi, he', gsk, gsi, hs', hlen1])
        exact ends_ret0 (by rfl) (by rfl) (by rfl)
      · have hs' : (sha l[k] == sha (l[i]'(by omega))) = false := by simp [hs]
        (try simp only [AWs_eq, ARgs_eq, AOps_eq, iteP_true, iteP_false]); (try simp -implicitDefEqProofs (disch := (first | omega | (simp only [List.length_append, List.length_cons, List.length_map, List.length_nil, List.length_take, List.length_drop]; omega))) only [↓zpre, zpost, cst1, ↓reduceIte, Nat.reduceEqDiff, Nat.reduceAdd, Nat.reduceLT, Nat.reduceLeDiff, Nat.reduceMul, Nat.reduceSub, Int.reduceToNat, Int.reduceAdd, Int.reduceSub, Int.reduceMul, Int.reduceNeg, Int.reduceLE, Int.reduceLT, Int.reduceEq, Int.reduceBEq, Int.reduceBNe, Nat.reduceBEq, Nat.reduceBNe, aBin, aInt, aStr, aUn, aConv, aNil, aFldAddr, aFld, aIdxAddr, aIdx, aBui, aLoad, aStore, aLits, aLit, aMake, aBytes, aApp, srcOf, aSlice, aBound, modeCut, apart, aSet, aFill, aval, aGd, ACall, AV.wk, AV.wk2, AV.wk1, AV.cells, AV.solid, AV.ro, AV.ro1, ← List.map_take, ← List.map_drop, reduceCtorEq, tf0, tf1, tf2, tf3, tf4, tf5, tf6, tf7, tf8, s0, s3, s4, s5, ga, gi, he', gsk, gsi, hs', hlen1])
        exact round_mk (k - (i + 1)) (by omega) ⟨(by first | rfl | (simp only [↓upd_apply, ↓put_some, ↓reduceIte, Nat.reduceEqDiff, ↓argEnv_zero, ↓argEnv_succ, *]; done)), (by first | rfl | (simp only [↓upd_apply, ↓put_some, ↓reduceIte, Nat.reduceEqDiff, ↓argEnv_zero, ↓argEnv_succ, *]; done)), (by first | rfl | (simp only [↓upd_apply, ↓put_some, ↓reduceIte, Nat.reduceEqDiff, ↓argEnv_zero, ↓argEnv_succ, *]; done)), rfl, i + 1, (by first | rfl | (simp only [↓upd_apply, ↓put_some, ↓reduceIte, Nat.reduceEqDiff, ↓argEnv_zero, ↓argEnv_succ, *]; done)), by omega, fun j x h1 h2 h3 => by
          by_cases hj : j = i
          · subst hj; rw [gi] at h2; cases h2; exact absurd h3.symm hs
          · exact hin j x (by omega) h2 h3, rfl⟩
  · have hik' : i = k := by omega
    subst hik'
    (try simp only [AWs_eq, ARgs_eq, AOps_eq, iteP_true, iteP_false]); (try simp -implicitDefEqProofs (disch := (first | omega | (simp only [List.length_append, List.length_cons, List.length_map, List.length_nil, List.length_take, List.length_drop]; omega))) only [↓zpre, zpost, cst1, ↓reduceIte, Nat.reduceEqDiff, Nat.reduceAdd, Nat.reduceLT, Nat.reduceLeDiff, Nat.reduceMul, Nat.reduceSub, Int.reduceToNat, Int.reduceAdd, Int.reduceSub, Int.reduceMul, Int.reduceNeg, Int.reduceLE, Int.reduceLT, Int.reduceEq, Int.reduceBEq, Int.reduceBNe, Nat.reduceBEq, Nat.reduceBNe, aBin, aInt, aStr, aUn, aConv, aNil, aFldAddr, aFld, aIdxAddr, aIdx, aBui, aLoad, aStore, aLits, aLit, aMake, aBytes, aApp, srcOf, aSlice, aBound, modeCut, apart, aSet, aFill, aval, aGd, ACall, AV.wk, AV.wk2, AV.wk1, AV.cells, AV.solid, AV.ro, AV.ro1, ← List.map_take, ← List.map_drop, reduceCtorEq, tf0, tf1, tf2, tf3, tf4, tf5, tf6, tf7, tf8, s0, s3, s4, s5, hw])
    exact round_mk (l.length - (i + 1)) (by omega) ⟨(by first | rfl | (simp only [↓upd_apply, ↓put_some, ↓reduceIte, Nat.reduceEqDiff, ↓argEnv_zero, ↓argEnv_succ, *]; done)), i + 1, (by first | rfl | (simp only [↓upd_apply, ↓put_some, ↓reduceIte, Nat.reduceEqDiff, ↓argEnv_zero, ↓argEnv_succ, *]; done)), (by first | rfl | (simp only [↓upd_apply, ↓put_some, ↓reduceIte, Nat.reduceEqDiff, ↓argEnv_zero, ↓argEnv_succ, *]; done)), rfl, by omega, fun a b x y h1 h2 h3 h4 h5 => by
      by_cases hb : b = i
      · subst hb; rw [ga] at h4; cases h4; exact hin a x h1 h3 h5
      · exact hno a b x y h1 (by omega) h3 h4 h5, rfl⟩
end Go.Proofs.YthnolonphjfoeaaDoor.Pe
/- The walks of MerkleBinds and MerkleOnce. -/
namespace Go.Proofs.YthnolonphjfoeaaDoor.Pe
set_option linter.unusedSectionVars false
set_option linter.unusedVariables false
set_option linter.unusedSimpArgs false
open Go Sm Mk
set_option maxRecDepth 100000
theorem shortB_and {l : List By} (h : shortB l = true) : l.length ≤ 100 ∧ ∀ x ∈ l, x.length ≤ 200 := by
  simpa [shortB] using h
theorem pre_len (a b : By) : (pre a b).length = a.length + b.length + 1 := by simp [pre]
theorem climb_el : ∀ (p : List By) (i n : Nat) (x : By), x.length ≤ 200 → (∀ y ∈ p, y.length ≤ 200) → (climb p i n x).1.length ≤ 200 ∧ ∀ z ∈ (climb p i n x).2.1, z.length ≤ 401
  | [], i, n, x, h, hp => by simp only [climb]; split <;> simp [h]
  | q :: r, i, n, x, h, hp => by
    have hq := hp q (by simp)
    have hr : ∀ y ∈ r, y.length ≤ 200 := fun y hy => hp y (by simp [hy])
    simp only [climb]; split
    · exact ⟨h, by simp⟩
    · split
      · have := climb_el r i (sp n) x h hr
        split
        · refine ⟨by rw [node_len]; omega, fun z hz => ?_⟩
          rcases List.mem_append.1 hz with hz | hz
          · exact this.2 z hz
          · rw [List.mem_singleton.1 hz, pre_len]; omega
        · simp
      · have := climb_el r (i - sp n) (n - sp n) x h hr
        split
        · refine ⟨by rw [node_len]; omega, fun z hz => ?_⟩
          rcases List.mem_append.1 hz with hz | hz
          · exact this.2 z hz
          · rw [List.mem_singleton.1 hz, pre_len]; omega
        · simp
theorem inputs_el (k : Nat) : ∀ (l : List By), l.length ≤ k → Dig l → ∀ z ∈ inputs l, z.length ≤ 65 := by
  induction k with
  | zero => intro l h hd z hz; rw [inputs_one (by omega)] at hz; simp at hz
  | succ k ih =>
    intro l h hd z hz
    by_cases h2 : 2 ≤ l.length
    · have h3 := sp_lt h2
      have h4 := sp_pos l.length
      rw [inputs_two h2] at hz
      rcases List.mem_append.1 hz with hz | hz
      · rcases List.mem_append.1 hz with hz | hz
        · exact ih _ (by simp; omega) (hd.take _) z hz
        · exact ih _ (by simp; omega) (hd.drop _) z hz
      · rw [List.mem_singleton.1 hz, pre_len, rt_dig (by simp; omega) (hd.take _), rt_dig (by simp; omega) (hd.drop _)]; omega
    · rw [inputs_one (by omega)] at hz; simp at hz
/-- what an accepted path says -/
theorem incB_of {x : By} {i n : Int} {root : By} {p : List By} (h : incB x i n root p = true) : 0 ≤ i ∧ i < n ∧ x.length = 32 ∧ Dig p ∧ flw p.reverse i.toNat n.toNat x = (root, true) := by
  unfold incB at h
  simp only [Bool.and_eq_true, decide_eq_true_eq, List.all_eq_true, beq_iff_eq] at h
  obtain ⟨⟨⟨⟨⟨h1, h2⟩, h3⟩, h4⟩, h5⟩, h6⟩ := h
  exact ⟨h1, h2, by omega, fun y hy => by have := h4 y hy; omega, Prod.ext h6 h5⟩
theorem Dig.rev {p : List By} (h : Dig p) : Dig p.reverse := fun y hy => h y (by simpa using hy)
set_option maxHeartbeats 3200000 in
theorem binds_c (s : List By) (x : By) (i : Int) (p : List By) (hi : -9223372036854775808 ≤ i ∧ i ≤ 9223372036854775807) : AC Tryd.prog 5 [sls s, .st x, .it .i64 i, sls p] [] (.bo true) [] := by
  refine AC.enter [9, 10, 20, 15, 21, 17, 25] [] Tryd.func5 rfl (by decide) (by decide) (Nat.le_of_ble_eq_true rfl) (by kernel_rfl) ?_; simp only [eraseC, eraseO, List.map_cons, List.map_nil, List.map_toArray, List.getElem?_toArray, List.getElem?_cons_zero, List.getElem?_cons_succ, Option.bind_some, Option.bind_none]
  (try simp only [AWs_eq, ARgs_eq, AOps_eq, iteP_true, iteP_false]); (try simp -implicitDefEqProofs (disch := (first | omega | (simp only [List.length_append, List.length_cons, List.length_map, List.length_nil, List.length_take, List.length_drop]; omega))) only [↓zpre, zpost, cst1, ↓reduceIte, Nat.reduceEqDiff, Nat.reduceAdd, Nat.reduceLT, Nat.reduceLeDiff, Nat.reduceMul, Nat.reduceSub, Int.reduceToNat, Int.reduceAdd, Int.reduceSub, Int.reduceMul, Int.reduceNeg, Int.reduceLE, Int.reduceLT, Int.reduceEq, Int.reduceBEq, Int.reduceBNe, Nat.reduceBEq, Nat.reduceBNe, aBin, aInt, aStr, aUn, aConv, aNil, aFldAddr, aFld, aIdxAddr, aIdx, aBui, aLoad, aStore, aLits, aLit, aMake, aBytes, aApp, srcOf, aSlice, aBound, modeCut, apart, aSet, aFill, aval, aGd, ACall, AV.wk, AV.wk2, AV.wk1, AV.cells, AV.solid, AV.ro, AV.ro1, ← List.map_take, ← List.map_drop, reduceCtorEq, tf0, tf1, tf2, tf3, tf4, tf5, tf6, tf7, tf8])
  refine call_pure small_c (by rfl) (by rfl) (by rfl) ?_
  (try simp only [AWs_eq, ARgs_eq, AOps_eq, iteP_true, iteP_false]); (try simp -implicitDefEqProofs (disch := (first | omega | (simp only [List.length_append, List.length_cons, List.length_map, List.length_nil, List.length_take, List.length_drop]; omega))) only [↓zpre, zpost, cst1, ↓reduceIte, Nat.reduceEqDiff, Nat.reduceAdd, Nat.reduceLT, Nat.reduceLeDiff, Nat.reduceMul, Nat.reduceSub, Int.reduceToNat, Int.reduceAdd, Int.reduceSub, Int.reduceMul, Int.reduceNeg, Int.reduceLE, Int.reduceLT, Int.reduceEq, Int.reduceBEq, Int.reduceBNe, Nat.reduceBEq, Nat.reduceBNe, aBin, aInt, aStr, aUn, aConv, aNil, aFldAddr, aFld, aIdxAddr, aIdx, aBui, aLoad, aStore, aLits, aLit, aMake, aBytes, aApp, srcOf, aSlice, aBound, modeCut, apart, aSet, aFill, aval, aGd, ACall, AV.wk, AV.wk2, AV.wk1, AV.cells, AV.solid, AV.ro, AV.ro1, ← List.map_take, ← List.map_drop, reduceCtorEq, tf0, tf1, tf2, tf3, tf4, tf5, tf6, tf7, tf8])
  refine call_pure (leaves_c s) (by rfl) (by rfl) (by rfl) ?_
  cases hs : leavesB s
  · (try simp only [AWs_eq, ARgs_eq, AOps_eq, iteP_true, iteP_false]); (try simp -implicitDefEqProofs (disch := (first | omega | (simp only [List.length_append, List.length_cons, List.length_map, List.length_nil, List.length_take, List.length_drop]; omega))) only [↓zpre, zpost, cst1, ↓reduceIte, Nat.reduceEqDiff, Nat.reduceAdd, Nat.reduceLT, Nat.reduceLeDiff, Nat.reduceMul, Nat.reduceSub, Int.reduceToNat, Int.reduceAdd, Int.reduceSub, Int.reduceMul, Int.reduceNeg, Int.reduceLE, Int.reduceLT, Int.reduceEq, Int.reduceBEq, Int.reduceBNe, Nat.reduceBEq, Nat.reduceBNe, aBin, aInt, aStr, aUn, aConv, aNil, aFldAddr, aFld, aIdxAddr, aIdx, aBui, aLoad, aStore, aLits, aLit, aMake, aBytes, aApp, srcOf, aSlice, aBound, modeCut, apart, aSet, aFill, aval, aGd, ACall, AV.wk, AV.wk2, AV.wk1, AV.cells, AV.solid, AV.ro, AV.ro1, ← List.map_take, ← List.map_drop, reduceCtorEq, tf0, tf1, tf2, tf3, tf4, tf5, tf6, tf7, tf8])
    exact ends_ret0 (by rfl) (by rfl) (by rfl)
  rw [if_pos rfl]
  have hlen : (s.map leaf).length ≤ 40 := by rw [List.length_map]; exact (leavesB_of hs).1
  have hd := leaf_dig s
  clear hs
  generalize s.map leaf = l at *
  have hx : ∀ x ∈ l, x.length ≤ 1000000 := fun x hx => by rw [hd x hx]; omega
  by_cases g0 : 200 < x.length
  · (try simp only [AWs_eq, ARgs_eq, AOps_eq, iteP_true, iteP_false]); (try simp -implicitDefEqProofs (disch := (first | omega | (simp only [List.length_append, List.length_cons, List.length_map, List.length_nil, List.length_take, List.length_drop]; omega))) only [↓zpre, zpost, cst1, ↓reduceIte, Nat.reduceEqDiff, Nat.reduceAdd, Nat.reduceLT, Nat.reduceLeDiff, Nat.reduceMul, Nat.reduceSub, Int.reduceToNat, Int.reduceAdd, Int.reduceSub, Int.reduceMul, Int.reduceNeg, Int.reduceLE, Int.reduceLT, Int.reduceEq, Int.reduceBEq, Int.reduceBNe, Nat.reduceBEq, Nat.reduceBNe, aBin, aInt, aStr, aUn, aConv, aNil, aFldAddr, aFld, aIdxAddr, aIdx, aBui, aLoad, aStore, aLits, aLit, aMake, aBytes, aApp, srcOf, aSlice, aBound, modeCut, apart, aSet, aFill, aval, aGd, ACall, AV.wk, AV.wk2, AV.wk1, AV.cells, AV.solid, AV.ro, AV.ro1, ← List.map_take, ← List.map_drop, reduceCtorEq, tf0, tf1, tf2, tf3, tf4, tf5, tf6, tf7, tf8])
    exact ends_ret0 (by rfl) (by rfl) (by rfl)
  (try simp only [AWs_eq, ARgs_eq, AOps_eq, iteP_true, iteP_false]); (try simp -implicitDefEqProofs (disch := (first | omega | (simp only [List.length_append, List.length_cons, List.length_map, List.length_nil, List.length_take, List.length_drop]; omega))) only [↓zpre, zpost, cst1, ↓reduceIte, Nat.reduceEqDiff, Nat.reduceAdd, Nat.reduceLT, Nat.reduceLeDiff, Nat.reduceMul, Nat.reduceSub, Int.reduceToNat, Int.reduceAdd, Int.reduceSub, Int.reduceMul, Int.reduceNeg, Int.reduceLE, Int.reduceLT, Int.reduceEq, Int.reduceBEq, Int.reduceBNe, Nat.reduceBEq, Nat.reduceBNe, aBin, aInt, aStr, aUn, aConv, aNil, aFldAddr, aFld, aIdxAddr, aIdx, aBui, aLoad, aStore, aLits, aLit, aMake, aBytes, aApp, srcOf, aSlice, aBound, modeCut, apart, aSet, aFill, aval, aGd, ACall, AV.wk, AV.wk2, AV.wk1, AV.cells, AV.solid, AV.ro, AV.ro1, ← List.map_take, ← List.map_drop, reduceCtorEq, tf0, tf1, tf2, tf3, tf4, tf5, tf6, tf7, tf8])
  refine call_pure (short_c p) (by rfl) (by rfl) (by rfl) ?_
  cases hp : shortB p
  · (try simp only [AWs_eq, ARgs_eq, AOps_eq, iteP_true, iteP_false]); (try simp -implicitDefEqProofs (disch := (first | omega | (simp only [List.length_append, List.length_cons, List.length_map, List.length_nil, List.length_take, List.length_drop]; omega))) only [↓zpre, zpost, cst1, ↓reduceIte, Nat.reduceEqDiff, Nat.reduceAdd, Nat.reduceLT, Nat.reduceLeDiff, Nat.reduceMul, Nat.reduceSub, Int.reduceToNat, Int.reduceAdd, Int.reduceSub, Int.reduceMul, Int.reduceNeg, Int.reduceLE, Int.reduceLT, Int.reduceEq, Int.reduceBEq, Int.reduceBNe, Nat.reduceBEq, Nat.reduceBNe, aBin, aInt, aStr, aUn, aConv, aNil, aFldAddr, aFld, aIdxAddr, aIdx, aBui, aLoad, aStore, aLits, aLit, aMake, aBytes, aApp, srcOf, aSlice, aBound, modeCut, apart, aSet, aFill, aval, aGd, ACall, AV.wk, AV.wk2, AV.wk1, AV.cells, AV.solid, AV.ro, AV.ro1, ← List.map_take, ← List.map_drop, reduceCtorEq, tf0, tf1, tf2, tf3, tf4, tf5, tf6, tf7, tf8])
    exact ends_ret0 (by rfl) (by rfl) (by rfl)
  obtain ⟨hp1, hp2⟩ := shortB_and hp
  have hpx : ∀ x ∈ p, x.length ≤ 1000000 := fun x hx => Nat.le_trans (hp2 x hx) (by omega)
  have hro := root_c l (by omega) hx
  have hinc := includes_b p i l.length x (root l) (by omega) (by omega) hi (by omega) (by omega) hpx
  (try simp only [AWs_eq, ARgs_eq, AOps_eq, iteP_true, iteP_false]); (try simp -implicitDefEqProofs (disch := (first | omega | (simp only [List.length_append, List.length_cons, List.length_map, List.length_nil, List.length_take, List.length_drop]; omega))) only [↓zpre, zpost, cst1, ↓reduceIte, Nat.reduceEqDiff, Nat.reduceAdd, Nat.reduceLT, Nat.reduceLeDiff, Nat.reduceMul, Nat.reduceSub, Int.reduceToNat, Int.reduceAdd, Int.reduceSub, Int.reduceMul, Int.reduceNeg, Int.reduceLE, Int.reduceLT, Int.reduceEq, Int.reduceBEq, Int.reduceBNe, Nat.reduceBEq, Nat.reduceBNe, aBin, aInt, aStr, aUn, aConv, aNil, aFldAddr, aFld, aIdxAddr, aIdx, aBui, aLoad, aStore, aLits, aLit, aMake, aBytes, aApp, srcOf, aSlice, aBound, modeCut, apart, aSet, aFill, aval, aGd, ACall, AV.wk, AV.wk2, AV.wk1, AV.cells, AV.solid, AV.ro, AV.ro1, ← List.map_take, ← List.map_drop, reduceCtorEq, tf0, tf1, tf2, tf3, tf4, tf5, tf6, tf7, tf8])
  refine call_pure hro (by rfl) (by rfl) (by rfl) ?_
  (try simp only [AWs_eq, ARgs_eq, AOps_eq, iteP_true, iteP_false]); (try simp -implicitDefEqProofs (disch := (first | omega | (simp only [List.length_append, List.length_cons, List.length_map, List.length_nil, List.length_take, List.length_drop]; omega))) only [↓zpre, zpost, cst1, ↓reduceIte, Nat.reduceEqDiff, Nat.reduceAdd, Nat.reduceLT, Nat.reduceLeDiff, Nat.reduceMul, Nat.reduceSub, Int.reduceToNat, Int.reduceAdd, Int.reduceSub, Int.reduceMul, Int.reduceNeg, Int.reduceLE, Int.reduceLT, Int.reduceEq, Int.reduceBEq, Int.reduceBNe, Nat.reduceBEq, Nat.reduceBNe, aBin, aInt, aStr, aUn, aConv, aNil, aFldAddr, aFld, aIdxAddr, aIdx, aBui, aLoad, aStore, aLits, aLit, aMake, aBytes, aApp, srcOf, aSlice, aBound, modeCut, apart, aSet, aFill, aval, aGd, ACall, AV.wk, AV.wk2, AV.wk1, AV.cells, AV.solid, AV.ro, AV.ro1, ← List.map_take, ← List.map_drop, reduceCtorEq, tf0, tf1, tf2, tf3, tf4, tf5, tf6, tf7, tf8])
  refine call_pure hinc (by rfl) (by rfl) (by rfl) ?_
  cases hb : incB x i l.length (root l) p
  · (try simp only [AWs_eq, ARgs_eq, AOps_eq, iteP_true, iteP_false]); (try simp -implicitDefEqProofs (disch := (first | omega | (simp only [List.length_append, List.length_cons, List.length_map, List.length_nil, List.length_take, List.length_drop]; omega))) only [↓zpre, zpost, cst1, ↓reduceIte, Nat.reduceEqDiff, Nat.reduceAdd, Nat.reduceLT, Nat.reduceLeDiff, Nat.reduceMul, Nat.reduceSub, Int.reduceToNat, Int.reduceAdd, Int.reduceSub, Int.reduceMul, Int.reduceNeg, Int.reduceLE, Int.reduceLT, Int.reduceEq, Int.reduceBEq, Int.reduceBNe, Nat.reduceBEq, Nat.reduceBNe, aBin, aInt, aStr, aUn, aConv, aNil, aFldAddr, aFld, aIdxAddr, aIdx, aBui, aLoad, aStore, aLits, aLit, aMake, aBytes, aApp, srcOf, aSlice, aBound, modeCut, apart, aSet, aFill, aval, aGd, ACall, AV.wk, AV.wk2, AV.wk1, AV.cells, AV.solid, AV.ro, AV.ro1, ← List.map_take, ← List.map_drop, reduceCtorEq, tf0, tf1, tf2, tf3, tf4, tf5, tf6, tf7, tf8])
    exact ends_ret0 (by rfl) (by rfl) (by rfl)
  obtain ⟨b1, b2, b3, b4, b5⟩ := incB_of hb
  obtain ⟨i, rfl⟩ := Int.eq_ofNat_of_zero_le b1
  simp only [Int.toNat_natCast] at b5
  have hil : i < l.length := by omega
  rw [root_rt (by omega)] at b5
  have key := binds l.length l p.reverse i x (Nat.le_refl _) hil hd (Dig.rev b4) b3 b5
  rw [List.reverse_reverse] at key
  have hcl := climb_c p.reverse i l.length x hil (by omega) (by simp; omega) (by omega) (fun y hy => hpx y (by simpa using hy))
  rw [List.reverse_reverse] at hcl
  have hce := (climb_el p.reverse i l.length x (by omega) (fun y hy => hp2 y (by simpa using hy))).2
  have hcn := (climb_len p.reverse i l.length x (by omega)).2
  rw [List.length_reverse] at hcn
  have hin := inputs_c l.length l (Nat.le_refl _) (by omega) hx
  have hie := inputs_el l.length l (Nat.le_refl _) hd
  have hinn := inputs_len l.length l (Nat.le_refl _)
  unfold ins at key
  generalize climb p.reverse i l.length x = C at *
  obtain ⟨ca, L, cok⟩ := C
  simp only at hcl hce hcn key
  generalize inputs l = I at *
  have hin' : AC Tryd.prog 24 [sls l] [.buf L.length 9 1] (.sl (.own 1) (I.map .st)) [.buf L.length 9 1, .buf I.length 9 1] := AC.fresh1 hin (by rfl) (by rfl) (by rfl) [.buf L.length 9 1]
  have ga : l[i]? = some l[i] := List.getElem?_eq_getElem hil
  (try simp only [AWs_eq, ARgs_eq, AOps_eq, iteP_true, iteP_false]); (try simp -implicitDefEqProofs (disch := (first | omega | (simp only [List.length_append, List.length_cons, List.length_map, List.length_nil, List.length_take, List.length_drop]; omega))) only [↓zpre, zpost, cst1, ↓reduceIte, Nat.reduceEqDiff, Nat.reduceAdd, Nat.reduceLT, Nat.reduceLeDiff, Nat.reduceMul, Nat.reduceSub, Int.reduceToNat, Int.reduceAdd, Int.reduceSub, Int.reduceMul, Int.reduceNeg, Int.reduceLE, Int.reduceLT, Int.reduceEq, Int.reduceBEq, Int.reduceBNe, Nat.reduceBEq, Nat.reduceBNe, aBin, aInt, aStr, aUn, aConv, aNil, aFldAddr, aFld, aIdxAddr, aIdx, aBui, aLoad, aStore, aLits, aLit, aMake, aBytes, aApp, srcOf, aSlice, aBound, modeCut, apart, aSet, aFill, aval, aGd, ACall, AV.wk, AV.wk2, AV.wk1, AV.cells, AV.solid, AV.ro, AV.ro1, ← List.map_take, ← List.map_drop, reduceCtorEq, tf0, tf1, tf2, tf3, tf4, tf5, tf6, tf7, tf8])
  refine call_mk hcl ?_
  (try simp only [AWs_eq, ARgs_eq, AOps_eq, iteP_true, iteP_false]); (try simp -implicitDefEqProofs (disch := (first | omega | (simp only [List.length_append, List.length_cons, List.length_map, List.length_nil, List.length_take, List.length_drop]; omega))) only [↓zpre, zpost, cst1, ↓reduceIte, Nat.reduceEqDiff, Nat.reduceAdd, Nat.reduceLT, Nat.reduceLeDiff, Nat.reduceMul, Nat.reduceSub, Int.reduceToNat, Int.reduceAdd, Int.reduceSub, Int.reduceMul, Int.reduceNeg, Int.reduceLE, Int.reduceLT, Int.reduceEq, Int.reduceBEq, Int.reduceBNe, Nat.reduceBEq, Nat.reduceBNe, aBin, aInt, aStr, aUn, aConv, aNil, aFldAddr, aFld, aIdxAddr, aIdx, aBui, aLoad, aStore, aLits, aLit, aMake, aBytes, aApp, srcOf, aSlice, aBound, modeCut, apart, aSet, aFill, aval, aGd, ACall, AV.wk, AV.wk2, AV.wk1, AV.cells, AV.solid, AV.ro, AV.ro1, ← List.map_take, ← List.map_drop, reduceCtorEq, tf0, tf1, tf2, tf3, tf4, tf5, tf6, tf7, tf8])
  refine call_mk hin' ?_
  (try simp only [AWs_eq, ARgs_eq, AOps_eq, iteP_true, iteP_false]); (try simp -implicitDefEqProofs (disch := (first | omega | (simp only [List.length_append, List.length_cons, List.length_map, List.length_nil, List.length_take, List.length_drop]; omega))) only [↓zpre, zpost, cst1, ↓reduceIte, Nat.reduceEqDiff, Nat.reduceAdd, Nat.reduceLT, Nat.reduceLeDiff, Nat.reduceMul, Nat.reduceSub, Int.reduceToNat, Int.reduceAdd, Int.reduceSub, Int.reduceMul, Int.reduceNeg, Int.reduceLE, Int.reduceLT, Int.reduceEq, Int.reduceBEq, Int.reduceBNe, Nat.reduceBEq, Nat.reduceBNe, aBin, aInt, aStr, aUn, aConv, aNil, aFldAddr, aFld, aIdxAddr, aIdx, aBui, aLoad, aStore, aLits, aLit, aMake, aBytes, aApp, srcOf, aSlice, aBound, modeCut, apart, aSet, aFill, aval, aGd, ACall, AV.wk, AV.wk2, AV.wk1, AV.cells, AV.solid, AV.ro, AV.ro1, ← List.map_take, ← List.map_drop, reduceCtorEq, tf0, tf1, tf2, tf3, tf4, tf5, tf6, tf7, tf8])
  have hcc := clash_c (I ++ L) (by simp; omega) (fun z hz => by rcases List.mem_append.1 hz with hz | hz; exact Nat.le_trans (hie z hz) (by omega); exact Nat.le_trans (hce z hz) (by omega))
  simp only [sls, List.map_append] at hcc
  by_cases hxe : l[i] = x
  · have hxe' : (l[i] == x) = true := by simp [hxe]
    have hrp := rpath_c l.length l i (Nat.le_refl _) hil (by omega) hx
    have hpl := path_len l.length l i (Nat.le_refl _)
    have hsm := rsame_c p (path l i) (by omega) (by omega)
    have hrp' : AC Tryd.prog 18 [sls l, .it .i64 i] [.buf L.length 9 1, .buf (I.length + L.length) 9 1] (.sl (.own 2) ((path l i).map .st)) [.buf L.length 9 1, .buf (I.length + L.length) 9 1, .buf (path l i).length 9 1] := AC.fresh1 hrp (by rfl) (by rfl) (by rfl) [.buf L.length 9 1, .buf (I.length + L.length) 9 1]
    (try simp only [AWs_eq, ARgs_eq, AOps_eq, iteP_true, iteP_false]); (try simp -implicitDefEqProofs (disch := (first | omega | (simp only [List.length_append, List.length_cons, List.length_map, List.length_nil, List.length_take, List.length_drop]; omega))) only [↓zpre, zpost, cst1, ↓reduceIte, Nat.reduceEqDiff, Nat.reduceAdd, Nat.reduceLT, Nat.reduceLeDiff, Nat.reduceMul, Nat.reduceSub, Int.reduceToNat, Int.reduceAdd, Int.reduceSub, Int.reduceMul, Int.reduceNeg, Int.reduceLE, Int.reduceLT, Int.reduceEq, Int.reduceBEq, Int.reduceBNe, Nat.reduceBEq, Nat.reduceBNe, aBin, aInt, aStr, aUn, aConv, aNil, aFldAddr, aFld, aIdxAddr, aIdx, aBui, aLoad, aStore, aLits, aLit, aMake, aBytes, aApp, srcOf, aSlice, aBound, modeCut, apart, aSet, aFill, aval, aGd, ACall, AV.wk, AV.wk2, AV.wk1, AV.cells, AV.solid, AV.ro, AV.ro1, ← List.map_take, ← List.map_drop, reduceCtorEq, tf0, tf1, tf2, tf3, tf4, tf5, tf6, tf7, tf8, ga, hxe'])
    try simp only [iteP_true, iteP_false]
    refine call_mk hrp' ?_
    (try simp only [AWs_eq, ARgs_eq, AOps_eq, iteP_true, iteP_false]); (try simp -implicitDefEqProofs (disch := (first | omega | (simp only [List.length_append, List.length_cons, List.length_map, List.length_nil, List.length_take, List.length_drop]; omega))) only [↓zpre, zpost, cst1, ↓reduceIte, Nat.reduceEqDiff, Nat.reduceAdd, Nat.reduceLT, Nat.reduceLeDiff, Nat.reduceMul, Nat.reduceSub, Int.reduceToNat, Int.reduceAdd, Int.reduceSub, Int.reduceMul, Int.reduceNeg, Int.reduceLE, Int.reduceLT, Int.reduceEq, Int.reduceBEq, Int.reduceBNe, Nat.reduceBEq, Nat.reduceBNe, aBin, aInt, aStr, aUn, aConv, aNil, aFldAddr, aFld, aIdxAddr, aIdx, aBui, aLoad, aStore, aLits, aLit, aMake, aBytes, aApp, srcOf, aSlice, aBound, modeCut, apart, aSet, aFill, aval, aGd, ACall, AV.wk, AV.wk2, AV.wk1, AV.cells, AV.solid, AV.ro, AV.ro1, ← List.map_take, ← List.map_drop, reduceCtorEq, tf0, tf1, tf2, tf3, tf4, tf5, tf6, tf7, tf8, ga, hxe'])
    refine call_pure hsm (by rfl) (by rfl) (by rfl) ?_
    by_cases hpe : p = path l i
    · rw [decide_eq_true hpe]
      (try simp only [AWs_eq, ARgs_eq, AOps_eq, iteP_true, iteP_false]); (try simp -implicitDefEqProofs (disch := (first | omega | (simp only [List.length_append, List.length_cons, List.length_map, List.length_nil, List.length_take, List.length_drop]; omega))) only [↓zpre, zpost, cst1, ↓reduceIte, Nat.reduceEqDiff, Nat.reduceAdd, Nat.reduceLT, Nat.reduceLeDiff, Nat.reduceMul, Nat.reduceSub, Int.reduceToNat, Int.reduceAdd, Int.reduceSub, Int.reduceMul, Int.reduceNeg, Int.reduceLE, Int.reduceLT, Int.reduceEq, Int.reduceBEq, Int.reduceBNe, Nat.reduceBEq, Nat.reduceBNe, aBin, aInt, aStr, aUn, aConv, aNil, aFldAddr, aFld, aIdxAddr, aIdx, aBui, aLoad, aStore, aLits, aLit, aMake, aBytes, aApp, srcOf, aSlice, aBound, modeCut, apart, aSet, aFill, aval, aGd, ACall, AV.wk, AV.wk2, AV.wk1, AV.cells, AV.solid, AV.ro, AV.ro1, ← List.map_take, ← List.map_drop, reduceCtorEq, tf0, tf1, tf2, tf3, tf4, tf5, tf6, tf7, tf8, ga, hxe'])
      exact ends_ret0 (by rfl) (by rfl) (by rfl)
    · rw [decide_eq_false hpe]
      have hC : Clash (I ++ L) := by
        rcases key with ⟨_, k2⟩ | k
        · exact absurd k2 hpe
        · exact k
      rw [clashB_t hC] at hcc
      (try simp only [AWs_eq, ARgs_eq, AOps_eq, iteP_true, iteP_false]); (try simp -implicitDefEqProofs (disch := (first | omega | (simp only [List.length_append, List.length_cons, List.length_map, List.length_nil, List.length_take, List.length_drop]; omega))) only [↓zpre, zpost, cst1, ↓reduceIte, Nat.reduceEqDiff, Nat.reduceAdd, Nat.reduceLT, Nat.reduceLeDiff, Nat.reduceMul, Nat.reduceSub, Int.reduceToNat, Int.reduceAdd, Int.reduceSub, Int.reduceMul, Int.reduceNeg, Int.reduceLE, Int.reduceLT, Int.reduceEq, Int.reduceBEq, Int.reduceBNe, Nat.reduceBEq, Nat.reduceBNe, aBin, aInt, aStr, aUn, aConv, aNil, aFldAddr, aFld, aIdxAddr, aIdx, aBui, aLoad, aStore, aLits, aLit, aMake, aBytes, aApp, srcOf, aSlice, aBound, modeCut, apart, aSet, aFill, aval, aGd, ACall, AV.wk, AV.wk2, AV.wk1, AV.cells, AV.solid, AV.ro, AV.ro1, ← List.map_take, ← List.map_drop, reduceCtorEq, tf0, tf1, tf2, tf3, tf4, tf5, tf6, tf7, tf8, ga, hxe'])
      try simp only [iteP_true, iteP_false]
      refine call_pure hcc (by rfl) (by rfl) (by rfl) ?_
      (try simp only [AWs_eq, ARgs_eq, AOps_eq, iteP_true, iteP_false]); (try simp -implicitDefEqProofs (disch := (first | omega | (simp only [List.length_append, List.length_cons, List.length_map, List.length_nil, List.length_take, List.length_drop]; omega))) only [↓zpre, zpost, cst1, ↓reduceIte, Nat.reduceEqDiff, Nat.reduceAdd, Nat.reduceLT, Nat.reduceLeDiff, Nat.reduceMul, Nat.reduceSub, Int.reduceToNat, Int.reduceAdd, Int.reduceSub, Int.reduceMul, Int.reduceNeg, Int.reduceLE, Int.reduceLT, Int.reduceEq, Int.reduceBEq, Int.reduceBNe, Nat.reduceBEq, Nat.reduceBNe, aBin, aInt, aStr, aUn, aConv, aNil, aFldAddr, aFld, aIdxAddr, aIdx, aBui, aLoad, aStore, aLits, aLit, aMake, aBytes, aApp, srcOf, aSlice, aBound, modeCut, apart, aSet, aFill, aval, aGd, ACall, AV.wk, AV.wk2, AV.wk1, AV.cells, AV.solid, AV.ro, AV.ro1, ← List.map_take, ← List.map_drop, reduceCtorEq, tf0, tf1, tf2, tf3, tf4, tf5, tf6, tf7, tf8])
      exact ends_ret0 (by rfl) (by rfl) (by rfl)
  · have hxe' : (l[i] == x) = false := by simp [hxe]
    have hC : Clash (I ++ L) := by
      rcases key with ⟨k1, _⟩ | k
      · rw [ga] at k1; exact absurd (Option.some.inj k1) hxe
      · exact k
    rw [clashB_t hC] at hcc
    (try simp only [AWs_eq, ARgs_eq, AOps_eq, iteP_true, iteP_false]); (try simp -implicitDefEqProofs (disch := (first | omega | (simp only [List.length_append, List.length_cons, List.length_map, List.length_nil, List.length_take, List.length_drop]; omega))) only [↓zpre, zpost, cst1, ↓reduceIte, Nat.reduceEqDiff, Nat.reduceAdd, Nat.reduceLT, Nat.reduceLeDiff, Nat.reduceMul, Nat.reduceSub, Int.reduceToNat, Int.reduceAdd, Int.reduceSub, Int.reduceMul, Int.reduceNeg, Int.reduceLE, Int.reduceLT, Int.reduceEq, Int.reduceBEq, Int.reduceBNe, Nat.reduceBEq, Nat.reduceBNe, aBin, aInt, aStr, aUn, aConv, aNil, aFldAddr, aFld, aIdxAddr, aIdx, aBui, aLoad, aStore, aLits, aLit, aMake, aBytes, aApp, srcOf, aSlice, aBound, modeCut, apart, aSet, aFill, aval, aGd, ACall, AV.wk, AV.wk2, AV.wk1, AV.cells, AV.solid, AV.ro, AV.ro1, ← List.map_take, ← List.map_drop, reduceCtorEq, tf0, tf1, tf2, tf3, tf4, tf5, tf6, tf7, tf8, ga, hxe'])
    try simp only [iteP_true, iteP_false]
    refine call_pure hcc (by rfl) (by rfl) (by rfl) ?_
    (try simp only [AWs_eq, ARgs_eq, AOps_eq, iteP_true, iteP_false]); (try simp -implicitDefEqProofs (disch := (first | omega | (simp only [List.length_append, List.length_cons, List.length_map, List.length_nil, List.length_take, List.length_drop]; omega))) only [↓zpre, zpost, cst1, ↓reduceIte, Nat.reduceEqDiff, Nat.reduceAdd, Nat.reduceLT, Nat.reduceLeDiff, Nat.reduceMul, Nat.reduceSub, Int.reduceToNat, Int.reduceAdd, Int.reduceSub, Int.reduceMul, Int.reduceNeg, Int.reduceLE, Int.reduceLT, Int.reduceEq, Int.reduceBEq, Int.reduceBNe, Nat.reduceBEq, Nat.reduceBNe, aBin, aInt, aStr, aUn, aConv, aNil, aFldAddr, aFld, aIdxAddr, aIdx, aBui, aLoad, aStore, aLits, aLit, aMake, aBytes, aApp, srcOf, aSlice, aBound, modeCut, apart, aSet, aFill, aval, aGd, ACall, AV.wk, AV.wk2, AV.wk1, AV.cells, AV.solid, AV.ro, AV.ro1, ← List.map_take, ← List.map_drop, reduceCtorEq, tf0, tf1, tf2, tf3, tf4, tf5, tf6, tf7, tf8])
    exact ends_ret0 (by rfl) (by rfl) (by rfl)
end Go.Proofs.YthnolonphjfoeaaDoor.Pe
/- The walk of MerkleOnce. -/
namespace Go.Proofs.YthnolonphjfoeaaDoor.Pe
set_option linter.unusedSectionVars false
set_option linter.unusedVariables false
set_option linter.unusedSimpArgs false
open Go Sm Mk
set_option maxRecDepth 100000
set_option maxHeartbeats 3200000 in
theorem once_c (i n : Int) (root x : By) (p : List By) (y : By) (q : List By) (hi : -9223372036854775808 ≤ i ∧ i ≤ 9223372036854775807) (hn : -9223372036854775808 ≤ n ∧ n ≤ 9223372036854775807) :
    AC Tryd.prog 7 [.it .i64 i, .it .i64 n, .st root, .st x, sls p, .st y, sls q] [] (.bo true) [] := by
  refine AC.enter [9, 10, 21, 17, 25] [] Tryd.func7 rfl (by decide) (by decide) (Nat.le_of_ble_eq_true rfl) (by kernel_rfl) ?_; simp only [eraseC, eraseO, List.map_cons, List.map_nil, List.map_toArray, List.getElem?_toArray, List.getElem?_cons_zero, List.getElem?_cons_succ, Option.bind_some, Option.bind_none]
  (try simp only [AWs_eq, ARgs_eq, AOps_eq, iteP_true, iteP_false]); (try simp -implicitDefEqProofs (disch := (first | omega | (simp only [List.length_append, List.length_cons, List.length_map, List.length_nil, List.length_take, List.length_drop]; omega))) only [↓zpre, zpost, cst1, ↓reduceIte, Nat.reduceEqDiff, Nat.reduceAdd, Nat.reduceLT, Nat.reduceLeDiff, Nat.reduceMul, Nat.reduceSub, Int.reduceToNat, Int.reduceAdd, Int.reduceSub, Int.reduceMul, Int.reduceNeg, Int.reduceLE, Int.reduceLT, Int.reduceEq, Int.reduceBEq, Int.reduceBNe, Nat.reduceBEq, Nat.reduceBNe, aBin, aInt, aStr, aUn, aConv, aNil, aFldAddr, aFld, aIdxAddr, aIdx, aBui, aLoad, aStore, aLits, aLit, aMake, aBytes, aApp, srcOf, aSlice, aBound, modeCut, apart, aSet, aFill, aval, aGd, ACall, AV.wk, AV.wk2, AV.wk1, AV.cells, AV.solid, AV.ro, AV.ro1, ← List.map_take, ← List.map_drop, reduceCtorEq, tf0, tf1, tf2, tf3, tf4, tf5, tf6, tf7, tf8])
  refine call_pure small_c (by rfl) (by rfl) (by rfl) ?_
  (try simp only [AWs_eq, ARgs_eq, AOps_eq, iteP_true, iteP_false]); (try simp -implicitDefEqProofs (disch := (first | omega | (simp only [List.length_append, List.length_cons, List.length_map, List.length_nil, List.length_take, List.length_drop]; omega))) only [↓zpre, zpost, cst1, ↓reduceIte, Nat.reduceEqDiff, Nat.reduceAdd, Nat.reduceLT, Nat.reduceLeDiff, Nat.reduceMul, Nat.reduceSub, Int.reduceToNat, Int.reduceAdd, Int.reduceSub, Int.reduceMul, Int.reduceNeg, Int.reduceLE, Int.reduceLT, Int.reduceEq, Int.reduceBEq, Int.reduceBNe, Nat.reduceBEq, Nat.reduceBNe, aBin, aInt, aStr, aUn, aConv, aNil, aFldAddr, aFld, aIdxAddr, aIdx, aBui, aLoad, aStore, aLits, aLit, aMake, aBytes, aApp, srcOf, aSlice, aBound, modeCut, apart, aSet, aFill, aval, aGd, ACall, AV.wk, AV.wk2, AV.wk1, AV.cells, AV.solid, AV.ro, AV.ro1, ← List.map_take, ← List.map_drop, reduceCtorEq, tf0, tf1, tf2, tf3, tf4, tf5, tf6, tf7, tf8])
  refine call_pure (short_c p) (by rfl) (by rfl) (by rfl) ?_
  cases hp : shortB p
  · (try simp only [AWs_eq, ARgs_eq, AOps_eq, iteP_true, iteP_false]); (try simp -implicitDefEqProofs (disch := (first | omega | (simp only [List.length_append, List.length_cons, List.length_map, List.length_nil, List.length_take, List.length_drop]; omega))) only [↓zpre, zpost, cst1, ↓reduceIte, Nat.reduceEqDiff, Nat.reduceAdd, Nat.reduceLT, Nat.reduceLeDiff, Nat.reduceMul, Nat.reduceSub, Int.reduceToNat, Int.reduceAdd, Int.reduceSub, Int.reduceMul, Int.reduceNeg, Int.reduceLE, Int.reduceLT, Int.reduceEq, Int.reduceBEq, Int.reduceBNe, Nat.reduceBEq, Nat.reduceBNe, aBin, aInt, aStr, aUn, aConv, aNil, aFldAddr, aFld, aIdxAddr, aIdx, aBui, aLoad, aStore, aLits, aLit, aMake, aBytes, aApp, srcOf, aSlice, aBound, modeCut, apart, aSet, aFill, aval, aGd, ACall, AV.wk, AV.wk2, AV.wk1, AV.cells, AV.solid, AV.ro, AV.ro1, ← List.map_take, ← List.map_drop, reduceCtorEq, tf0, tf1, tf2, tf3, tf4, tf5, tf6, tf7, tf8])
    exact ends_ret0 (by rfl) (by rfl) (by rfl)
  (try simp only [AWs_eq, ARgs_eq, AOps_eq, iteP_true, iteP_false]); (try simp -implicitDefEqProofs (disch := (first | omega | (simp only [List.length_append, List.length_cons, List.length_map, List.length_nil, List.length_take, List.length_drop]; omega))) only [↓zpre, zpost, cst1, ↓reduceIte, Nat.reduceEqDiff, Nat.reduceAdd, Nat.reduceLT, Nat.reduceLeDiff, Nat.reduceMul, Nat.reduceSub, Int.reduceToNat, Int.reduceAdd, Int.reduceSub, Int.reduceMul, Int.reduceNeg, Int.reduceLE, Int.reduceLT, Int.reduceEq, Int.reduceBEq, Int.reduceBNe, Nat.reduceBEq, Nat.reduceBNe, aBin, aInt, aStr, aUn, aConv, aNil, aFldAddr, aFld, aIdxAddr, aIdx, aBui, aLoad, aStore, aLits, aLit, aMake, aBytes, aApp, srcOf, aSlice, aBound, modeCut, apart, aSet, aFill, aval, aGd, ACall, AV.wk, AV.wk2, AV.wk1, AV.cells, AV.solid, AV.ro, AV.ro1, ← List.map_take, ← List.map_drop, reduceCtorEq, tf0, tf1, tf2, tf3, tf4, tf5, tf6, tf7, tf8])
  refine call_pure (short_c q) (by rfl) (by rfl) (by rfl) ?_
  cases hq : shortB q
  · (try simp only [AWs_eq, ARgs_eq, AOps_eq, iteP_true, iteP_false]); (try simp -implicitDefEqProofs (disch := (first | omega | (simp only [List.length_append, List.length_cons, List.length_map, List.length_nil, List.length_take, List.length_drop]; omega))) only [↓zpre, zpost, cst1, ↓reduceIte, Nat.reduceEqDiff, Nat.reduceAdd, Nat.reduceLT, Nat.reduceLeDiff, Nat.reduceMul, Nat.reduceSub, Int.reduceToNat, Int.reduceAdd, Int.reduceSub, Int.reduceMul, Int.reduceNeg, Int.reduceLE, Int.reduceLT, Int.reduceEq, Int.reduceBEq, Int.reduceBNe, Nat.reduceBEq, Nat.reduceBNe, aBin, aInt, aStr, aUn, aConv, aNil, aFldAddr, aFld, aIdxAddr, aIdx, aBui, aLoad, aStore, aLits, aLit, aMake, aBytes, aApp, srcOf, aSlice, aBound, modeCut, apart, aSet, aFill, aval, aGd, ACall, AV.wk, AV.wk2, AV.wk1, AV.cells, AV.solid, AV.ro, AV.ro1, ← List.map_take, ← List.map_drop, reduceCtorEq, tf0, tf1, tf2, tf3, tf4, tf5, tf6, tf7, tf8])
    exact ends_ret0 (by rfl) (by rfl) (by rfl)
  obtain ⟨hp1, hp2⟩ := shortB_and hp
  have hpx : ∀ x ∈ p, x.length ≤ 1000000 := fun x hx => Nat.le_trans (hp2 x hx) (by omega)
  obtain ⟨hq1, hq2⟩ := shortB_and hq
  have hqx : ∀ x ∈ q, x.length ≤ 1000000 := fun x hx => Nat.le_trans (hq2 x hx) (by omega)
  by_cases g0 : 200 < x.length
  · (try simp only [AWs_eq, ARgs_eq, AOps_eq, iteP_true, iteP_false]); (try simp -implicitDefEqProofs (disch := (first | omega | (simp only [List.length_append, List.length_cons, List.length_map, List.length_nil, List.length_take, List.length_drop]; omega))) only [↓zpre, zpost, cst1, ↓reduceIte, Nat.reduceEqDiff, Nat.reduceAdd, Nat.reduceLT, Nat.reduceLeDiff, Nat.reduceMul, Nat.reduceSub, Int.reduceToNat, Int.reduceAdd, Int.reduceSub, Int.reduceMul, Int.reduceNeg, Int.reduceLE, Int.reduceLT, Int.reduceEq, Int.reduceBEq, Int.reduceBNe, Nat.reduceBEq, Nat.reduceBNe, aBin, aInt, aStr, aUn, aConv, aNil, aFldAddr, aFld, aIdxAddr, aIdx, aBui, aLoad, aStore, aLits, aLit, aMake, aBytes, aApp, srcOf, aSlice, aBound, modeCut, apart, aSet, aFill, aval, aGd, ACall, AV.wk, AV.wk2, AV.wk1, AV.cells, AV.solid, AV.ro, AV.ro1, ← List.map_take, ← List.map_drop, reduceCtorEq, tf0, tf1, tf2, tf3, tf4, tf5, tf6, tf7, tf8])
    exact ends_ret0 (by rfl) (by rfl) (by rfl)
  by_cases g1 : 200 < y.length
  · (try simp only [AWs_eq, ARgs_eq, AOps_eq, iteP_true, iteP_false]); (try simp -implicitDefEqProofs (disch := (first | omega | (simp only [List.length_append, List.length_cons, List.length_map, List.length_nil, List.length_take, List.length_drop]; omega))) only [↓zpre, zpost, cst1, ↓reduceIte, Nat.reduceEqDiff, Nat.reduceAdd, Nat.reduceLT, Nat.reduceLeDiff, Nat.reduceMul, Nat.reduceSub, Int.reduceToNat, Int.reduceAdd, Int.reduceSub, Int.reduceMul, Int.reduceNeg, Int.reduceLE, Int.reduceLT, Int.reduceEq, Int.reduceBEq, Int.reduceBNe, Nat.reduceBEq, Nat.reduceBNe, aBin, aInt, aStr, aUn, aConv, aNil, aFldAddr, aFld, aIdxAddr, aIdx, aBui, aLoad, aStore, aLits, aLit, aMake, aBytes, aApp, srcOf, aSlice, aBound, modeCut, apart, aSet, aFill, aval, aGd, ACall, AV.wk, AV.wk2, AV.wk1, AV.cells, AV.solid, AV.ro, AV.ro1, ← List.map_take, ← List.map_drop, reduceCtorEq, tf0, tf1, tf2, tf3, tf4, tf5, tf6, tf7, tf8])
    exact ends_ret0 (by rfl) (by rfl) (by rfl)
  by_cases g2 : 200 < root.length
  · (try simp only [AWs_eq, ARgs_eq, AOps_eq, iteP_true, iteP_false]); (try simp -implicitDefEqProofs (disch := (first | omega | (simp only [List.length_append, List.length_cons, List.length_map, List.length_nil, List.length_take, List.length_drop]; omega))) only [↓zpre, zpost, cst1, ↓reduceIte, Nat.reduceEqDiff, Nat.reduceAdd, Nat.reduceLT, Nat.reduceLeDiff, Nat.reduceMul, Nat.reduceSub, Int.reduceToNat, Int.reduceAdd, Int.reduceSub, Int.reduceMul, Int.reduceNeg, Int.reduceLE, Int.reduceLT, Int.reduceEq, Int.reduceBEq, Int.reduceBNe, Nat.reduceBEq, Nat.reduceBNe, aBin, aInt, aStr, aUn, aConv, aNil, aFldAddr, aFld, aIdxAddr, aIdx, aBui, aLoad, aStore, aLits, aLit, aMake, aBytes, aApp, srcOf, aSlice, aBound, modeCut, apart, aSet, aFill, aval, aGd, ACall, AV.wk, AV.wk2, AV.wk1, AV.cells, AV.solid, AV.ro, AV.ro1, ← List.map_take, ← List.map_drop, reduceCtorEq, tf0, tf1, tf2, tf3, tf4, tf5, tf6, tf7, tf8])
    exact ends_ret0 (by rfl) (by rfl) (by rfl)
  have hinc := includes_b p i n x root (by omega) (by omega) hi (by omega) (by omega) hpx
  have hinc2 := includes_b q i n y root (by omega) (by omega) hi (by omega) (by omega) hqx
  (try simp only [AWs_eq, ARgs_eq, AOps_eq, iteP_true, iteP_false]); (try simp -implicitDefEqProofs (disch := (first | omega | (simp only [List.length_append, List.length_cons, List.length_map, List.length_nil, List.length_take, List.length_drop]; omega))) only [↓zpre, zpost, cst1, ↓reduceIte, Nat.reduceEqDiff, Nat.reduceAdd, Nat.reduceLT, Nat.reduceLeDiff, Nat.reduceMul, Nat.reduceSub, Int.reduceToNat, Int.reduceAdd, Int.reduceSub, Int.reduceMul, Int.reduceNeg, Int.reduceLE, Int.reduceLT, Int.reduceEq, Int.reduceBEq, Int.reduceBNe, Nat.reduceBEq, Nat.reduceBNe, aBin, aInt, aStr, aUn, aConv, aNil, aFldAddr, aFld, aIdxAddr, aIdx, aBui, aLoad, aStore, aLits, aLit, aMake, aBytes, aApp, srcOf, aSlice, aBound, modeCut, apart, aSet, aFill, aval, aGd, ACall, AV.wk, AV.wk2, AV.wk1, AV.cells, AV.solid, AV.ro, AV.ro1, ← List.map_take, ← List.map_drop, reduceCtorEq, tf0, tf1, tf2, tf3, tf4, tf5, tf6, tf7, tf8])
  refine call_pure hinc (by rfl) (by rfl) (by rfl) ?_
  cases hb : incB x i n root p
  · (try simp only [AWs_eq, ARgs_eq, AOps_eq, iteP_true, iteP_false]); (try simp -implicitDefEqProofs (disch := (first | omega | (simp only [List.length_append, List.length_cons, List.length_map, List.length_nil, List.length_take, List.length_drop]; omega))) only [↓zpre, zpost, cst1, ↓reduceIte, Nat.reduceEqDiff, Nat.reduceAdd, Nat.reduceLT, Nat.reduceLeDiff, Nat.reduceMul, Nat.reduceSub, Int.reduceToNat, Int.reduceAdd, Int.reduceSub, Int.reduceMul, Int.reduceNeg, Int.reduceLE, Int.reduceLT, Int.reduceEq, Int.reduceBEq, Int.reduceBNe, Nat.reduceBEq, Nat.reduceBNe, aBin, aInt, aStr, aUn, aConv, aNil, aFldAddr, aFld, aIdxAddr, aIdx, aBui, aLoad, aStore, aLits, aLit, aMake, aBytes, aApp, srcOf, aSlice, aBound, modeCut, apart, aSet, aFill, aval, aGd, ACall, AV.wk, AV.wk2, AV.wk1, AV.cells, AV.solid, AV.ro, AV.ro1, ← List.map_take, ← List.map_drop, reduceCtorEq, tf0, tf1, tf2, tf3, tf4, tf5, tf6, tf7, tf8])
    exact ends_ret0 (by rfl) (by rfl) (by rfl)
  (try simp only [AWs_eq, ARgs_eq, AOps_eq, iteP_true, iteP_false]); (try simp -implicitDefEqProofs (disch := (first | omega | (simp only [List.length_append, List.length_cons, List.length_map, List.length_nil, List.length_take, List.length_drop]; omega))) only [↓zpre, zpost, cst1, ↓reduceIte, Nat.reduceEqDiff, Nat.reduceAdd, Nat.reduceLT, Nat.reduceLeDiff, Nat.reduceMul, Nat.reduceSub, Int.reduceToNat, Int.reduceAdd, Int.reduceSub, Int.reduceMul, Int.reduceNeg, Int.reduceLE, Int.reduceLT, Int.reduceEq, Int.reduceBEq, Int.reduceBNe, Nat.reduceBEq, Nat.reduceBNe, aBin, aInt, aStr, aUn, aConv, aNil, aFldAddr, aFld, aIdxAddr, aIdx, aBui, aLoad, aStore, aLits, aLit, aMake, aBytes, aApp, srcOf, aSlice, aBound, modeCut, apart, aSet, aFill, aval, aGd, ACall, AV.wk, AV.wk2, AV.wk1, AV.cells, AV.solid, AV.ro, AV.ro1, ← List.map_take, ← List.map_drop, reduceCtorEq, tf0, tf1, tf2, tf3, tf4, tf5, tf6, tf7, tf8])
  refine call_pure hinc2 (by rfl) (by rfl) (by rfl) ?_
  cases hb2 : incB y i n root q
  · (try simp only [AWs_eq, ARgs_eq, AOps_eq, iteP_true, iteP_false]); (try simp -implicitDefEqProofs (disch := (first | omega | (simp only [List.length_append, List.length_cons, List.length_map, List.length_nil, List.length_take, List.length_drop]; omega))) only [↓zpre, zpost, cst1, ↓reduceIte, Nat.reduceEqDiff, Nat.reduceAdd, Nat.reduceLT, Nat.reduceLeDiff, Nat.reduceMul, Nat.reduceSub, Int.reduceToNat, Int.reduceAdd, Int.reduceSub, Int.reduceMul, Int.reduceNeg, Int.reduceLE, Int.reduceLT, Int.reduceEq, Int.reduceBEq, Int.reduceBNe, Nat.reduceBEq, Nat.reduceBNe, aBin, aInt, aStr, aUn, aConv, aNil, aFldAddr, aFld, aIdxAddr, aIdx, aBui, aLoad, aStore, aLits, aLit, aMake, aBytes, aApp, srcOf, aSlice, aBound, modeCut, apart, aSet, aFill, aval, aGd, ACall, AV.wk, AV.wk2, AV.wk1, AV.cells, AV.solid, AV.ro, AV.ro1, ← List.map_take, ← List.map_drop, reduceCtorEq, tf0, tf1, tf2, tf3, tf4, tf5, tf6, tf7, tf8])
    exact ends_ret0 (by rfl) (by rfl) (by rfl)
  obtain ⟨b1, b2, b3, b4, b5⟩ := incB_of hb
  obtain ⟨_, _, c3, c4, c5⟩ := incB_of hb2
  obtain ⟨i, rfl⟩ := Int.eq_ofNat_of_zero_le b1
  obtain ⟨n, rfl⟩ := Int.eq_ofNat_of_zero_le (by omega : 0 ≤ n)
  simp only [Int.toNat_natCast] at b5 c5
  have hil : i < n := by omega
  have key := once p.reverse q.reverse i n x y (Dig.rev b4) (Dig.rev c4) b3 c3 (by rw [b5]) (by rw [c5]) (by rw [b5, c5])
  rw [List.reverse_inj] at key
  have hcl := climb_c p.reverse i n x hil (by omega) (by simp; omega) (by omega) (fun y hy => hpx y (by simpa using hy))
  have hcl2 := climb_c q.reverse i n y hil (by omega) (by simp; omega) (by omega) (fun y hy => hqx y (by simpa using hy))
  rw [List.reverse_reverse] at hcl hcl2
  have hce := (climb_el p.reverse i n x (by omega) (fun y hy => hp2 y (by simpa using hy))).2
  have hcn := (climb_len p.reverse i n x (by omega)).2
  have hce2 := (climb_el q.reverse i n y (by omega) (fun y hy => hq2 y (by simpa using hy))).2
  have hcn2 := (climb_len q.reverse i n y (by omega)).2
  rw [List.length_reverse] at hcn hcn2
  unfold ins at key
  generalize climb p.reverse i n x = C at *
  obtain ⟨ca, L, cok⟩ := C
  generalize climb q.reverse i n y = C2 at *
  obtain ⟨ca2, L2, cok2⟩ := C2
  simp only at hcl hce hcn hcl2 hce2 hcn2 key
  have hcl2' : AC Tryd.prog 23 [.st y, .it .i64 i, .it .i64 n, sls q] [.buf L.length 9 1] (.tup [.st ca2, .sl (.own 1) (L2.map .st), .bo cok2]) [.buf L.length 9 1, .buf L2.length 9 1] := AC.fresh1 hcl2 (by rfl) (by rfl) (by rfl) [.buf L.length 9 1]
  have hcc := clash_c (L ++ L2) (by simp; omega) (fun z hz => by rcases List.mem_append.1 hz with hz | hz; exact Nat.le_trans (hce z hz) (by omega); exact Nat.le_trans (hce2 z hz) (by omega))
  simp only [sls, List.map_append] at hcc
  (try simp only [AWs_eq, ARgs_eq, AOps_eq, iteP_true, iteP_false]); (try simp -implicitDefEqProofs (disch := (first | omega | (simp only [List.length_append, List.length_cons, List.length_map, List.length_nil, List.length_take, List.length_drop]; omega))) only [↓zpre, zpost, cst1, ↓reduceIte, Nat.reduceEqDiff, Nat.reduceAdd, Nat.reduceLT, Nat.reduceLeDiff, Nat.reduceMul, Nat.reduceSub, Int.reduceToNat, Int.reduceAdd, Int.reduceSub, Int.reduceMul, Int.reduceNeg, Int.reduceLE, Int.reduceLT, Int.reduceEq, Int.reduceBEq, Int.reduceBNe, Nat.reduceBEq, Nat.reduceBNe, aBin, aInt, aStr, aUn, aConv, aNil, aFldAddr, aFld, aIdxAddr, aIdx, aBui, aLoad, aStore, aLits, aLit, aMake, aBytes, aApp, srcOf, aSlice, aBound, modeCut, apart, aSet, aFill, aval, aGd, ACall, AV.wk, AV.wk2, AV.wk1, AV.cells, AV.solid, AV.ro, AV.ro1, ← List.map_take, ← List.map_drop, reduceCtorEq, tf0, tf1, tf2, tf3, tf4, tf5, tf6, tf7, tf8])
  refine call_mk hcl ?_
  (try simp only [AWs_eq, ARgs_eq, AOps_eq, iteP_true, iteP_false]); (try simp -implicitDefEqProofs (disch := (first | omega | (simp only [List.length_append, List.length_cons, List.length_map, List.length_nil, List.length_take, List.length_drop]; omega))) only [↓zpre, zpost, cst1, ↓reduceIte, Nat.reduceEqDiff, Nat.reduceAdd, Nat.reduceLT, Nat.reduceLeDiff, Nat.reduceMul, Nat.reduceSub, Int.reduceToNat, Int.reduceAdd, Int.reduceSub, Int.reduceMul, Int.reduceNeg, Int.reduceLE, Int.reduceLT, Int.reduceEq, Int.reduceBEq, Int.reduceBNe, Nat.reduceBEq, Nat.reduceBNe, aBin, aInt, aStr, aUn, aConv, aNil, aFldAddr, aFld, aIdxAddr, aIdx, aBui, aLoad, aStore, aLits, aLit, aMake, aBytes, aApp, srcOf, aSlice, aBound, modeCut, apart, aSet, aFill, aval, aGd, ACall, AV.wk, AV.wk2, AV.wk1, AV.cells, AV.solid, AV.ro, AV.ro1, ← List.map_take, ← List.map_drop, reduceCtorEq, tf0, tf1, tf2, tf3, tf4, tf5, tf6, tf7, tf8])
  refine call_mk hcl2' ?_
  by_cases hxe : x = y
  · have hxe' : (x == y) = true := by simp [hxe]
    have hsm := rsame_c p q (by omega) (by omega)
    (try simp only [AWs_eq, ARgs_eq, AOps_eq, iteP_true, iteP_false]); (try simp -implicitDefEqProofs (disch := (first | omega | (simp only [List.length_append, List.length_cons, List.length_map, List.length_nil, List.length_take, List.length_drop]; omega))) only [↓zpre, zpost, cst1, ↓reduceIte, Nat.reduceEqDiff, Nat.reduceAdd, Nat.reduceLT, Nat.reduceLeDiff, Nat.reduceMul, Nat.reduceSub, Int.reduceToNat, Int.reduceAdd, Int.reduceSub, Int.reduceMul, Int.reduceNeg, Int.reduceLE, Int.reduceLT, Int.reduceEq, Int.reduceBEq, Int.reduceBNe, Nat.reduceBEq, Nat.reduceBNe, aBin, aInt, aStr, aUn, aConv, aNil, aFldAddr, aFld, aIdxAddr, aIdx, aBui, aLoad, aStore, aLits, aLit, aMake, aBytes, aApp, srcOf, aSlice, aBound, modeCut, apart, aSet, aFill, aval, aGd, ACall, AV.wk, AV.wk2, AV.wk1, AV.cells, AV.solid, AV.ro, AV.ro1, ← List.map_take, ← List.map_drop, reduceCtorEq, tf0, tf1, tf2, tf3, tf4, tf5, tf6, tf7, tf8, hxe'])
    try simp only [iteP_true, iteP_false]
    refine call_pure hsm (by rfl) (by rfl) (by rfl) ?_
    by_cases hpe : p = q
    · rw [decide_eq_true hpe]
      (try simp only [AWs_eq, ARgs_eq, AOps_eq, iteP_true, iteP_false]); (try simp -implicitDefEqProofs (disch := (first | omega | (simp only [List.length_append, List.length_cons, List.length_map, List.length_nil, List.length_take, List.length_drop]; omega))) only [↓zpre, zpost, cst1, ↓reduceIte, Nat.reduceEqDiff, Nat.reduceAdd, Nat.reduceLT, Nat.reduceLeDiff, Nat.reduceMul, Nat.reduceSub, Int.reduceToNat, Int.reduceAdd, Int.reduceSub, Int.reduceMul, Int.reduceNeg, Int.reduceLE, Int.reduceLT, Int.reduceEq, Int.reduceBEq, Int.reduceBNe, Nat.reduceBEq, Nat.reduceBNe, aBin, aInt, aStr, aUn, aConv, aNil, aFldAddr, aFld, aIdxAddr, aIdx, aBui, aLoad, aStore, aLits, aLit, aMake, aBytes, aApp, srcOf, aSlice, aBound, modeCut, apart, aSet, aFill, aval, aGd, ACall, AV.wk, AV.wk2, AV.wk1, AV.cells, AV.solid, AV.ro, AV.ro1, ← List.map_take, ← List.map_drop, reduceCtorEq, tf0, tf1, tf2, tf3, tf4, tf5, tf6, tf7, tf8, hxe'])
      exact ends_ret0 (by rfl) (by rfl) (by rfl)
    · rw [decide_eq_false hpe]
      have hC : Clash (L ++ L2) := by
        rcases key with ⟨_, k2⟩ | k
        · exact absurd k2 hpe
        · exact k
      rw [clashB_t hC] at hcc
      (try simp only [AWs_eq, ARgs_eq, AOps_eq, iteP_true, iteP_false]); (try simp -implicitDefEqProofs (disch := (first | omega | (simp only [List.length_append, List.length_cons, List.length_map, List.length_nil, List.length_take, List.length_drop]; omega))) only [↓zpre, zpost, cst1, ↓reduceIte, Nat.reduceEqDiff, Nat.reduceAdd, Nat.reduceLT, Nat.reduceLeDiff, Nat.reduceMul, Nat.reduceSub, Int.reduceToNat, Int.reduceAdd, Int.reduceSub, Int.reduceMul, Int.reduceNeg, Int.reduceLE, Int.reduceLT, Int.reduceEq, Int.reduceBEq, Int.reduceBNe, Nat.reduceBEq, Nat.reduceBNe, aBin, aInt, aStr, aUn, aConv, aNil, aFldAddr, aFld, aIdxAddr, aIdx, aBui, aLoad, aStore, aLits, aLit, aMake, aBytes, aApp, srcOf, aSlice, aBound, modeCut, apart, aSet, aFill, aval, aGd, ACall, AV.wk, AV.wk2, AV.wk1, AV.cells, AV.solid, AV.ro, AV.ro1, ← List.map_take, ← List.map_drop, reduceCtorEq, tf0, tf1, tf2, tf3, tf4, tf5, tf6, tf7, tf8, hxe'])
      try simp only [iteP_true, iteP_false]
      refine call_pure hcc (by rfl) (by rfl) (by rfl) ?_
      (try simp only [AWs_eq, ARgs_eq, AOps_eq, iteP_true, iteP_false]); (try simp -implicitDefEqProofs (disch := (first | omega | (simp only [List.length_append, List.length_cons, List.length_map, List.length_nil, List.length_take, List.length_drop]; omega))) only [↓zpre, zpost, cst1, ↓reduceIte, Nat.reduceEqDiff, Nat.reduceAdd, Nat.reduceLT, Nat.reduceLeDiff, Nat.reduceMul, Nat.reduceSub, Int.reduceToNat, Int.reduceAdd, Int.reduceSub, Int.reduceMul, Int.reduceNeg, Int.reduceLE, Int.reduceLT, Int.reduceEq, Int.reduceBEq, Int.reduceBNe, Nat.reduceBEq, Nat.reduceBNe, aBin, aInt, aStr, aUn, aConv, aNil, aFldAddr, aFld, aIdxAddr, aIdx, aBui, aLoad, aStore, aLits, aLit, aMake, aBytes, aApp, srcOf, aSlice, aBound, modeCut, apart, aSet, aFill, aval, aGd, ACall, AV.wk, AV.wk2, AV.wk1, AV.cells, AV.solid, AV.ro, AV.ro1, ← List.map_take, ← List.map_drop, reduceCtorEq, tf0, tf1, tf2, tf3, tf4, tf5, tf6, tf7, tf8])
      exact ends_ret0 (by rfl) (by rfl) (by rfl)
  · have hxe' : (x == y) = false := by simp [hxe]
    have hC : Clash (L ++ L2) := by
      rcases key with ⟨k1, _⟩ | k
      · exact absurd k1 hxe
      · exact k
    rw [clashB_t hC] at hcc
    (try simp only [AWs_eq, ARgs_eq, AOps_eq, iteP_true, iteP_false]); (try simp -implicitDefEqProofs (disch := (first | omega | (simp only [List.length_append, List.length_cons, List.length_map, List.length_nil, List.length_take, List.length_drop]; omega))) only [↓zpre, zpost, cst1, ↓reduceIte, Nat.reduceEqDiff, Nat.reduceAdd, Nat.reduceLT, Nat.reduceLeDiff, Nat.reduceMul, Nat.reduceSub, Int.reduceToNat, Int.reduceAdd, Int.reduceSub, Int.reduceMul, Int.reduceNeg, Int.reduceLE, Int.reduceLT, Int.reduceEq, Int.reduceBEq, Int.reduceBNe, Nat.reduceBEq, Nat.reduceBNe, aBin, aInt, aStr, aUn, aConv, aNil, aFldAddr, aFld, aIdxAddr, aIdx, aBui, aLoad, aStore, aLits, aLit, aMake, aBytes, aApp, srcOf, aSlice, aBound, modeCut, apart, aSet, aFill, aval, aGd, ACall, AV.wk, AV.wk2, AV.wk1, AV.cells, AV.solid, AV.ro, AV.ro1, ← List.map_take, ← List.map_drop, reduceCtorEq, tf0, tf1, tf2, tf3, tf4, tf5, tf6, tf7, tf8, hxe'])
    try simp only [iteP_true, iteP_false]
    refine call_pure hcc (by rfl) (by rfl) (by rfl) ?_
    (try simp only [AWs_eq, ARgs_eq, AOps_eq, iteP_true, iteP_false]); (try simp -implicitDefEqProofs (disch := (first | omega | (simp only [List.length_append, List.length_cons, List.length_map, List.length_nil, List.length_take, List.length_drop]; omega))) only [↓zpre, zpost, cst1, ↓reduceIte, Nat.reduceEqDiff, Nat.reduceAdd, Nat.reduceLT, Nat.reduceLeDiff, Nat.reduceMul, Nat.reduceSub, Int.reduceToNat, Int.reduceAdd, Int.reduceSub, Int.reduceMul, Int.reduceNeg, Int.reduceLE, Int.reduceLT, Int.reduceEq, Int.reduceBEq, Int.reduceBNe, Nat.reduceBEq, Nat.reduceBNe, aBin, aInt, aStr, aUn, aConv, aNil, aFldAddr, aFld, aIdxAddr, aIdx, aBui, aLoad, aStore, aLits, aLit, aMake, aBytes, aApp, srcOf, aSlice, aBound, modeCut, apart, aSet, aFill, aval, aGd, ACall, AV.wk, AV.wk2, AV.wk1, AV.cells, AV.solid, AV.ro, AV.ro1, ← List.map_take, ← List.map_drop, reduceCtorEq, tf0, tf1, tf2, tf3, tf4, tf5, tf6, tf7, tf8])
    exact ends_ret0 (by rfl) (by rfl) (by rfl)
end Go.Proofs.YthnolonphjfoeaaDoor.Pe
