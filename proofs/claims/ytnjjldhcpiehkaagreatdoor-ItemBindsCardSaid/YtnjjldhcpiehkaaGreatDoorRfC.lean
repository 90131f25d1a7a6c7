/- The reference of layer 5 on plain values: keys, signatures, challenges. -/
import Derived.Test.YtnjjldhcpiehkaaGreatDoorRfA
import Derived.Test.YtnjjldhcpiehkaaGreatDoorRfB
import Derived.Test.YtnjjldhcpiehkaaGreatDoorSumRa
namespace Go.Proofs.YtnjjldhcpiehkaaGreatDoor.Pe
set_option linter.unusedSectionVars false
set_option linter.unusedVariables false
set_option linter.unusedSimpArgs false
open Go Go.RowKit Co Sg
set_option maxRecDepth 100000
set_option maxHeartbeats 4000000
theorem rsnum_c (l : By) (h : l.length ≤ 140737488355328) : AC Tryz.prog 126 [.st l] [] (.it .i64 (Sm.num l : Nat)) [] := by
  refine AC.ofBelow (by kernel_rfl) fun w g cargs ht hargs => ?_
  rw [lrel_st hargs]
  refine (rnum_any ⟨l.toArray⟩ w (by simp [ByteArray.size]; omega)).mono ?_
  rintro r w' ⟨rfl, rfl⟩
  exact ⟨_, rfl, fun g' => .it g' _ _, Below.refl _ _⟩
theorem rhash_c (l : By) (h : l.length ≤ 1000000000) : AC Tryz.prog 73 [.st l] [] (.it .i64 (Sg.hash l : Nat)) [] := by
  refine AC.enter [96, 126] [] Tryz.func73 rfl (by decide) (by decide) (Nat.le_of_ble_eq_true rfl) (by kernel_rfl) ?_; simp only [eraseC, eraseO, List.map_cons, List.map_nil, List.map_toArray, List.getElem?_toArray, List.getElem?_cons_zero, List.getElem?_cons_succ, Option.bind_some, Option.bind_none, List.append_eq, List.cons_append, List.nil_append]
  have hs : (Sm.sha l).length ≤ 140737488355328 := by show 32 ≤ _; omega
  refine run ?_
  refine cp (rsha_c l (by omega)) ?_
  refine run ?_
  refine cp (rsnum_c _ hs) ?_
  refine run ?_
  exact er0
theorem rsecret_c (l : By) (h : l.length ≤ 1000000000) : AC Tryz.prog 170 [.st l] [] (.it .i64 (reduce (Sg.hash l) : Nat)) [] := by
  refine AC.enter [73] [] Tryz.func170 rfl (by decide) (by decide) (Nat.le_of_ble_eq_true rfl) (by kernel_rfl) ?_; simp only [eraseC, eraseO, List.map_cons, List.map_nil, List.map_toArray, List.getElem?_toArray, List.getElem?_cons_zero, List.getElem?_cons_succ, Option.bind_some, Option.bind_none, List.append_eq, List.cons_append, List.nil_append]
  have hh := hash_lt l
  have hc := rhash_c l h
  unfold reduce
  generalize Sg.hash l = h at *
  have e : (h : Int).tmod 2305843009213693949 = ((h % 2305843009213693949 : Nat) : Int) := by rw [Int.tmod_eq_emod_of_nonneg (by omega)]; omega
  have e2 : (1 : Int) + ((h % 2305843009213693949 : Nat) : Int) = ((1 + h % 2305843009213693949 : Nat) : Int) := by omega
  refine run ?_
  refine cp hc ?_
  refine runf (And.intro @e @e2) ?_
  exact er0
theorem rof_c (s : Int) (hs : -9223372036854775808 ≤ s ∧ s ≤ 9223372036854775807) : AC Tryz.prog 207 [.it .i64 s] [] (keyV (Sg.keyOf s)) [] := by
  refine AC.enter [72] [] Tryz.func207 rfl (by decide) (by decide) (Nat.le_of_ble_eq_true rfl) (by kernel_rfl) ?_; simp only [eraseC, eraseO, List.map_cons, List.map_nil, List.map_toArray, List.getElem?_toArray, List.getElem?_cons_zero, List.getElem?_cons_succ, Option.bind_some, Option.bind_none, List.append_eq, List.cons_append, List.nil_append]
  unfold Sg.keyOf
  by_cases h1 : s < 1
  · rw [if_pos (.inl h1)]
    refine run ?_
    exact er0
  by_cases h2 : 2305843009213693949 < s
  · have h3 : 2305843009213693950 ≤ s := by omega
    rw [if_pos (.inr h2)]
    refine runf @h3 ?_
    exact er0
  · have h3 : ¬ 2305843009213693950 ≤ s := by omega
    rw [if_neg (by omega)]
    obtain ⟨n, rfl⟩ := Int.eq_ofNat_of_zero_le (show 0 ≤ s by omega)
    have he := rexp_c 37 (n : Int) (by omega) (by omega)
    rw [expI_nat 37 37 n rfl (by decide)] at he
    refine run ?_
    refine cp he ?_
    refine run ?_
    exact er0
theorem rkeyright_c (k : Key) (hs : -9223372036854775808 ≤ k.secret ∧ k.secret ≤ 9223372036854775807) : AC Tryz.prog 169 [keyV k] [] (.bo k.right) [] := by
  refine AC.enter [207] [] Tryz.func169 rfl (by decide) (by decide) (Nat.le_of_ble_eq_true rfl) (by kernel_rfl) ?_; simp only [eraseC, eraseO, List.map_cons, List.map_nil, List.map_toArray, List.getElem?_toArray, List.getElem?_cons_zero, List.getElem?_cons_succ, Option.bind_some, Option.bind_none, List.append_eq, List.cons_append, List.nil_append]
  unfold Key.right
  have ke : decide (k = Sg.keyOf k.secret) = ((k.secret == (Sg.keyOf k.secret).secret) && (k.pub == (Sg.keyOf k.secret).pub)) := by
    generalize Sg.keyOf k.secret = q
    obtain ⟨a, b⟩ := k
    obtain ⟨c, d⟩ := q
    rw [Bool.eq_iff_iff]
    simp
  rw [ke]
  by_cases h1 : 1 ≤ k.secret
  · have h2 : 0 < k.secret := by omega
    rw [decide_eq_true h1]
    refine runf @h2 ?_
    refine cp (rof_c k.secret hs) ?_
    refine run ?_
    exact er0
  · have h2 : ¬ 0 < k.secret := by omega
    rw [decide_eq_false h1]
    refine runf @h2 ?_
    exact er0
theorem rchallenge_c (r p : Int) (m : By) (hm : m.length ≤ 100000000) (hr : -9223372036854775808 ≤ r ∧ r ≤ 9223372036854775807) (hp : -9223372036854775808 ≤ p ∧ p ≤ 9223372036854775807) : AC Tryz.prog 19 [.it .i64 r, .it .i64 p, .st m] [] (.it .i64 (challenge r p m : Nat)) [] := by
  refine AC.enter [68, 74, 73] [] Tryz.func19 rfl (by decide) (by decide) (Nat.le_of_ble_eq_true rfl) (by kernel_rfl) ?_; simp only [eraseC, eraseO, List.map_cons, List.map_nil, List.map_toArray, List.getElem?_toArray, List.getElem?_cons_zero, List.getElem?_cons_succ, Option.bind_some, Option.bind_none, List.append_eq, List.cons_append, List.nil_append]
  have tw : (text wSign).length = 5 := by rfl
  have tm := text_le m hm
  have l1 := numI_len r (by omega)
  have l2 := numI_len p (by omega)
  have hlt := hash_lt (text wSign ++ numI r ++ numI p ++ text m)
  unfold challenge
  have hh := rhash_c (text wSign ++ numI r ++ numI p ++ text m) (by simp only [List.length_append]; omega)
  generalize Sg.hash (text wSign ++ numI r ++ numI p ++ text m) = h at *
  have e : (h : Int).tmod 2305843009213693950 = ((h % 2305843009213693950 : Nat) : Int) := by rw [Int.tmod_eq_emod_of_nonneg (by omega)]; omega
  refine run ?_
  refine cp (ftext_c wSign (by simp)) ?_
  refine run ?_
  refine cp (fnum_c r (by omega)) ?_
  refine run ?_
  refine cp (fnum_c p (by omega)) ?_
  refine run ?_
  refine cp (ftext_c m (by omega)) ?_
  refine run ?_
  refine cp hh ?_
  refine runf @e ?_
  exact er0
theorem rsign_c (k : Key) (m : By) (hm : m.length ≤ 100000000) (hs : -9223372036854775808 ≤ k.secret ∧ k.secret ≤ 9223372036854775807) : AC Tryz.prog 102 [keyV k, .st m] [] (sigV (sign k m)) [] := by
  refine AC.enter [169, 68, 74, 170, 72, 19, 172, 171] [] Tryz.func102 rfl (by decide) (by decide) (Nat.le_of_ble_eq_true rfl) (by kernel_rfl) ?_; simp only [eraseC, eraseO, List.map_cons, List.map_nil, List.map_toArray, List.getElem?_toArray, List.getElem?_cons_zero, List.getElem?_cons_succ, Option.bind_some, Option.bind_none, List.append_eq, List.cons_append, List.nil_append]
  unfold sign
  refine run ?_
  refine cp (rkeyright_c k hs) ?_
  cases hr : k.right with
  | false =>
    rw [if_neg (by simp)]
    refine run ?_
    exact er0
  | true =>
    rw [if_pos rfl]
    obtain ⟨p1, p2⟩ := pub_range hr
    obtain ⟨q1, q2, _⟩ := Key.right_iff.1 hr
    have tm := text_le m hm
    have tw : (text wNonce).length = 6 := by rfl
    have l1 := numI_len k.secret (by omega)
    have hred := rsecret_c (text wNonce ++ numI k.secret ++ text m) (by simp only [List.length_append]; omega)
    change AC _ _ _ _ (.it .i64 (nonce k m : Nat)) _ at hred
    obtain ⟨n1, n2⟩ : 1 ≤ nonce k m ∧ nonce k m < 2305843009213693950 := reduce_lt _
    generalize nonce k m = u at *
    have hexp := rexp_c 37 (u : Int) (by omega) (by omega)
    rw [expI_nat 37 37 u rfl (by decide)] at hexp
    have hpl := powm_lt 37 u
    have hch := rchallenge_c (powm 37 u : Nat) k.pub m hm (by omega) (by omega)
    have hel := challenge_lt (powm 37 u : Nat) k.pub m
    generalize challenge (powm 37 u : Nat) k.pub m = e at *
    have hmul := rmulN_c (e : Int) k.secret (by omega) (by omega)
    have hml : mulNI e k.secret < 2305843009213693950 := Nat.mod_lt _ (by decide)
    have hadd := raddN_c (u : Int) (mulNI e k.secret : Nat) (by omega) (by omega)
    have hval : ((u : Int) % 2305843009213693950 + ((mulNI e k.secret : Nat) : Int) % 2305843009213693950) % 2305843009213693950 = (((u + e * k.secret.toNat) % 2305843009213693950 : Nat) : Int) := by
      have h1 : mulNI e k.secret = e * k.secret.toNat % 2305843009213693950 := by
        unfold mulNI
        rw [show ((e : Int) % 2305843009213693950).toNat = e by omega, show (k.secret % 2305843009213693950).toNat = k.secret.toNat by omega]
      rw [h1]
      generalize e * k.secret.toNat = z
      omega
    rw [hval] at hadd
    refine run ?_
    refine cp (ftext_c wNonce (by simp)) ?_
    refine run ?_
    refine cp (fnum_c k.secret (by omega)) ?_
    refine run ?_
    refine cp (ftext_c m (by omega)) ?_
    refine run ?_
    refine cp hred ?_
    refine run ?_
    refine cp hexp ?_
    refine run ?_
    refine cp hch ?_
    refine run ?_
    refine cp hmul ?_
    refine run ?_
    refine cp hadd ?_
    refine run ?_
    exact er0
theorem rcommit_c (p : Int) (s : Sig) (h1 : 1 ≤ p) (h2 : p < 2305843009213693951) (re : 0 ≤ s.e ∧ s.e < 2305843009213693950) (rs : 0 ≤ s.s ∧ s.s < 2305843009213693950) : AC Tryz.prog 18 [.it .i64 p, sigV s] [] (.it .i64 (commit p s : Nat)) [] := by
  refine AC.enter [72, 71] [] Tryz.func18 rfl (by decide) (by decide) (Nat.le_of_ble_eq_true rfl) (by kernel_rfl) ?_; simp only [eraseC, eraseO, List.map_cons, List.map_nil, List.map_toArray, List.getElem?_toArray, List.getElem?_cons_zero, List.getElem?_cons_succ, Option.bind_some, Option.bind_none, List.append_eq, List.cons_append, List.nil_append]
  have x1 := rexp_c 37 s.s (by omega) (by omega)
  have x2 := rexp_c p (2305843009213693950 - s.e) (by omega) (by omega)
  have e1 : expI 37 s.s = powm 37 s.s.toNat := by
    have := expI_nat 37 37 s.s.toNat rfl (by decide)
    rwa [Int.toNat_of_nonneg rs.1] at this
  have e2 : expI p (2305843009213693950 - s.e) = powm p.toNat (2305843009213693950 - s.e).toNat := by
    have := expI_nat p p.toNat (2305843009213693950 - s.e).toNat (by omega) (by omega)
    rwa [Int.toNat_of_nonneg (by omega)] at this
  rw [e1] at x1
  rw [e2] at x2
  have l1 := powm_lt 37 s.s.toNat
  have l2 := powm_lt p.toNat (2305843009213693950 - s.e).toNat
  have hmul := rmul_c (powm 37 s.s.toNat : Nat) (powm p.toNat (2305843009213693950 - s.e).toNat : Nat) (by omega) (by omega)
  rw [mulI_nat l1 l2] at hmul
  change AC _ _ _ _ (.it .i64 ((commit p s : Nat) : Int)) _ at hmul
  generalize commit p s = c at *
  generalize powm 37 s.s.toNat = y1 at *
  generalize powm p.toNat (2305843009213693950 - s.e).toNat = y2 at *
  refine run ?_
  refine cp x1 ?_
  refine run ?_
  refine cp x2 ?_
  refine run ?_
  refine cp hmul ?_
  refine run ?_
  exact er0
theorem rranges_c (p : Int) (s : Sig) : AC Tryz.prog 159 [.it .i64 p, sigV s] [] (.bo (decide (1 ≤ p) && decide (p < 2305843009213693951) && decide (0 ≤ s.e) && decide (s.e < 2305843009213693950) && decide (0 ≤ s.s) && decide (s.s < 2305843009213693950))) [] := by
  refine AC.enter [] [] Tryz.func159 rfl (by decide) (by decide) (Nat.le_of_ble_eq_true rfl) (by kernel_rfl) ?_; simp only [eraseC, eraseO, List.map_cons, List.map_nil, List.map_toArray, List.getElem?_toArray, List.getElem?_cons_zero, List.getElem?_cons_succ, Option.bind_some, Option.bind_none, List.append_eq, List.cons_append, List.nil_append]
  by_cases h1 : 1 ≤ p
  rotate_left
  · rw [decide_eq_false h1]
    refine run ?_
    exact er0
  by_cases h2 : p < 2305843009213693951
  rotate_left
  · rw [decide_eq_true h1, decide_eq_false h2]
    refine run ?_
    exact er0
  by_cases h3 : 0 ≤ s.e
  rotate_left
  · rw [decide_eq_true h1, decide_eq_true h2, decide_eq_false h3]
    refine run ?_
    exact er0
  by_cases h4 : s.e < 2305843009213693950
  rotate_left
  · rw [decide_eq_true h1, decide_eq_true h2, decide_eq_true h3, decide_eq_false h4]
    refine run ?_
    exact er0
  by_cases h5 : 0 ≤ s.s
  rotate_left
  · rw [decide_eq_true h1, decide_eq_true h2, decide_eq_true h3, decide_eq_true h4, decide_eq_false h5]
    refine run ?_
    exact er0
  rw [decide_eq_true h1, decide_eq_true h2, decide_eq_true h3, decide_eq_true h4, decide_eq_true h5]
  refine run ?_
  exact er0
theorem rverify_c (p : Int) (m : By) (s : Sig) (hm : m.length ≤ 100000000) : AC Tryz.prog 97 [.it .i64 p, .st m, sigV s] [] (.bo (verify p m s)) [] := by
  refine AC.enter [159, 18, 19] [] Tryz.func97 rfl (by decide) (by decide) (Nat.le_of_ble_eq_true rfl) (by kernel_rfl) ?_; simp only [eraseC, eraseO, List.map_cons, List.map_nil, List.map_toArray, List.getElem?_toArray, List.getElem?_cons_zero, List.getElem?_cons_succ, Option.bind_some, Option.bind_none, List.append_eq, List.cons_append, List.nil_append]
  have hc := rranges_c p s
  unfold verify inOrder
  by_cases h : 1 ≤ p ∧ p < 2305843009213693951 ∧ 0 ≤ s.e ∧ s.e < 2305843009213693950 ∧ 0 ≤ s.s ∧ s.s < 2305843009213693950
  · obtain ⟨h1, h2, h3, h4, h5, h6⟩ := h
    rw [decide_eq_true h1, decide_eq_true h2, decide_eq_true h3, decide_eq_true h4, decide_eq_true h5, decide_eq_true h6] at hc ⊢
    have hco := rcommit_c p s h1 h2 ⟨h3, h4⟩ ⟨h5, h6⟩
    have hcl : commit p s < 2305843009213693951 := Nat.mod_lt _ (by decide)
    have hch := rchallenge_c (commit p s : Nat) p m hm (by omega) (by omega)
    generalize commit p s = c at *
    generalize challenge (c : Int) p m = h at *
    have hsym : ((h : Int) == s.e) = (s.e == (h : Int)) := by rw [Bool.eq_iff_iff]; simp only [beq_iff_eq]; exact eq_comm
    refine run ?_
    refine cp hc ?_
    refine run ?_
    refine cp hco ?_
    refine run ?_
    refine cp hch ?_
    refine runf @hsym ?_
    exact er0
  · have e : (decide (1 ≤ p) && decide (p < 2305843009213693951) && decide (0 ≤ s.e) && decide (s.e < 2305843009213693950) && decide (0 ≤ s.s) && decide (s.s < 2305843009213693950)) = false := by
      rw [Bool.eq_false_iff]
      intro hh
      simp only [Bool.and_eq_true, decide_eq_true_eq] at hh
      omega
    have e2 : (decide (1 ≤ p) && decide (p < 2305843009213693951) && (decide (0 ≤ s.e) && decide (s.e < 2305843009213693950)) && (decide (0 ≤ s.s) && decide (s.s < 2305843009213693950)) && decide (s.e = (challenge (commit p s) p m : Nat))) = false := by
      rw [Bool.eq_false_iff]
      intro hh
      simp only [Bool.and_eq_true, decide_eq_true_eq] at hh
      omega
    rw [e] at hc
    rw [e2]
    refine run ?_
    refine cp hc ?_
    refine run ?_
    exact er0
end Go.Proofs.YtnjjldhcpiehkaaGreatDoor.Pe
