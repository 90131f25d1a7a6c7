/- Plain laws on hexadecimal digits. -/
import Derived.Test.YtcjagjganiigiaaDoorSumM
namespace Go.Proofs.YtcjagjganiigiaaDoor.Sm
def isDigit (c : UInt8) : Bool := (le8 48 c && le8 c 57) || (le8 97 c && le8 c 102)
theorem all_bytes {p : UInt8 → Bool} (h : (List.range 256).all (fun n => p (UInt8.ofNat n)) = true) (b : UInt8) : p b = true := by
  have := List.all_eq_true.1 h b.toNat (List.mem_range.2 b.toNat_lt)
  rwa [UInt8.ofNat_toNat] at this
theorem hexd_ok (b : UInt8) : isDigit (hexd (shrB b 4)) = true ∧ isDigit (hexd (b &&& 15)) = true ∧ dig (hexd (shrB b 4)) = (shrB b 4, true) ∧ dig (hexd (b &&& 15)) = (b &&& 15, true) ∧ (shlB (shrB b 4) 4 ||| (b &&& 15)) = b := by
  have h : (List.range 256).all (fun n => decide (isDigit (hexd (shrB (UInt8.ofNat n) 4)) = true ∧ isDigit (hexd (UInt8.ofNat n &&& 15)) = true ∧ dig (hexd (shrB (UInt8.ofNat n) 4)) = (shrB (UInt8.ofNat n) 4, true) ∧ dig (hexd (UInt8.ofNat n &&& 15)) = (UInt8.ofNat n &&& 15, true) ∧ (shlB (shrB (UInt8.ofNat n) 4) 4 ||| (UInt8.ofNat n &&& 15)) = UInt8.ofNat n)) = true := by decide +kernel
  exact of_decide_eq_true (all_bytes (p := fun b => decide (isDigit (hexd (shrB b 4)) = true ∧ isDigit (hexd (b &&& 15)) = true ∧ dig (hexd (shrB b 4)) = (shrB b 4, true) ∧ dig (hexd (b &&& 15)) = (b &&& 15, true) ∧ (shlB (shrB b 4) 4 ||| (b &&& 15)) = b)) h b)
theorem dig_back (c : UInt8) (h : (dig c).2 = true) : hexd (dig c).1 = c ∧ (dig c).1.toNat < 16 := by
  have h0 : (List.range 256).all (fun n => decide ((dig (UInt8.ofNat n)).2 = true → hexd (dig (UInt8.ofNat n)).1 = UInt8.ofNat n ∧ (dig (UInt8.ofNat n)).1.toNat < 16)) = true := by decide +kernel
  exact of_decide_eq_true (all_bytes (p := fun c => decide ((dig c).2 = true → hexd (dig c).1 = c ∧ (dig c).1.toNat < 16)) h0 c) h
theorem nibbles (a b : UInt8) (ha : a.toNat < 16) (hb : b.toNat < 16) : shrB (shlB a 4 ||| b) 4 = a ∧ ((shlB a 4 ||| b) &&& 15) = b := by
  have h : (List.range 16).all (fun m => (List.range 16).all (fun n => decide (shrB (shlB (UInt8.ofNat m) 4 ||| UInt8.ofNat n) 4 = UInt8.ofNat m ∧ ((shlB (UInt8.ofNat m) 4 ||| UInt8.ofNat n) &&& 15) = UInt8.ofNat n))) = true := by decide +kernel
  have h1 := List.all_eq_true.1 h a.toNat (List.mem_range.2 ha)
  have h2 := List.all_eq_true.1 h1 b.toNat (List.mem_range.2 hb)
  simp only [UInt8.ofNat_toNat] at h2
  exact of_decide_eq_true h2
theorem hex_isDigit (l : List UInt8) : ∀ c ∈ hex l, isDigit c = true := by
  intro c hc
  obtain ⟨b, _, hb⟩ := List.mem_flatMap.1 hc
  simp only [hex2, List.mem_cons, List.not_mem_nil, or_false] at hb
  rcases hb with rfl | rfl
  · exact (hexd_ok b).1
  · exact (hexd_ok b).2.1
theorem hex_app (l m : List UInt8) : hex (l ++ m) = hex l ++ hex m := by simp [hex]
theorem hex_getD (l : List UInt8) (k : Nat) (hk : k < l.length) (r : List UInt8) : (hex l ++ r).getD (2 * k) 0 = hexd (shrB (l.getD k 0) 4) ∧ (hex l ++ r).getD (2 * k + 1) 0 = hexd (l.getD k 0 &&& 15) := by
  induction l generalizing k with
  | nil => simp at hk
  | cons b l ih =>
    have e : hex (b :: l) ++ r = hexd (shrB b 4) :: hexd (b &&& 15) :: (hex l ++ r) := rfl
    rw [e]
    cases k with
    | zero => exact ⟨rfl, rfl⟩
    | succ k =>
      have := ih k (by simpa using hk)
      rw [show 2 * (k + 1) = 2 * k + 1 + 1 from by omega]
      simpa using this
theorem unhexAt_hex (l r : List UInt8) (k : Nat) (hk : k ≤ l.length) : unhexAt (hex l ++ r) k = some (l.take k) := by
  induction k with
  | zero => simp [unhexAt]
  | succ k ih =>
    obtain ⟨h1, h2⟩ := hex_getD l k (by omega) r
    have hb := hexd_ok (l.getD k 0)
    rw [unhexAt, ih (by omega), h1, h2, hb.2.2.1, hb.2.2.2.1]
    simp only [Bool.and_self, if_true]
    rw [hb.2.2.2.2, List.take_succ_eq_append_getElem (by omega), List.getD_eq_getElem?_getD, List.getElem?_eq_getElem (by omega)]
    rfl
theorem unhex_hex (l : List UInt8) : unhex (hex l) = (l, true) := by
  have h := unhexAt_hex l [] l.length (Nat.le_refl _)
  rw [List.append_nil, List.take_length] at h
  rw [unhex, if_pos (by rw [hex_length]; omega), hex_length, show 2 * l.length / 2 = l.length from by omega, h]
theorem unhex_odd (l : List UInt8) : (unhex (hex l ++ [48])).2 = false := by
  rw [unhex, if_neg (by rw [List.length_append, hex_length]; simp)]
theorem unhex_upper (l : List UInt8) : (unhex (hex l ++ [65, 48])).2 = false := by
  have h := unhexAt_hex l [65, 48] l.length (Nat.le_refl _)
  have hf := unhex_fail (hex l ++ [65, 48]) l.length _ h (by rw [List.length_append, hex_length]; simp) (by
    have : (hex l ++ [65, 48]).getD (2 * l.length) 0 = 65 := by
      rw [List.getD_eq_getElem?_getD, List.getElem?_append_right (by rw [hex_length]; omega), hex_length]
      simp
    rw [this]
    have : (dig 65).2 = false := by decide +kernel
    rw [this]; rfl)
  rw [hf]
theorem unhexAt_back (t : List UInt8) (k : Nat) (out : List UInt8) (h : unhexAt t k = some out) (hk : 2 * k ≤ t.length) : hex out = t.take (2 * k) := by
  induction k generalizing out with
  | zero => simp [unhexAt] at h; subst h; simp [hex]
  | succ k ih =>
    rw [unhexAt] at h
    cases hu : unhexAt t k with
    | none => rw [hu] at h; cases h
    | some o =>
      rw [hu] at h
      simp only at h
      split at h
      · rename_i hd
        rw [Bool.and_eq_true] at hd
        injection h with h
        obtain ⟨a1, a2⟩ := dig_back _ hd.1
        obtain ⟨b1, b2⟩ := dig_back _ hd.2
        obtain ⟨n1, n2⟩ := nibbles _ _ a2 b2
        rw [← h, hex_app, ih o hu (by omega)]
        have e : hex [shlB (dig (t.getD (2 * k) 0)).1 4 ||| (dig (t.getD (2 * k + 1) 0)).1] = [t.getD (2 * k) 0, t.getD (2 * k + 1) 0] := by
          show [hexd _, hexd _] = _
          rw [n1, n2, a1, b1]
        rw [e, show 2 * (k + 1) = 2 * k + 1 + 1 from by omega, List.take_succ_eq_append_getElem (by omega), List.take_succ_eq_append_getElem (by omega), List.append_assoc]
        simp only [List.getD_eq_getElem?_getD]
        rw [List.getElem?_eq_getElem (by omega), List.getElem?_eq_getElem (by omega)]
        rfl
      · cases h
theorem unhex_back (t x : List UInt8) (h : unhex t = (x, true)) : hex x = t := by
  unfold unhex at h
  split at h
  · rename_i he
    cases hu : unhexAt t (t.length / 2) with
    | none => rw [hu] at h; simp at h
    | some o =>
      rw [hu] at h
      simp only [Prod.mk.injEq, and_true] at h
      subst h
      rw [unhexAt_back t _ o hu (by omega), List.take_of_length_le (by omega)]
  · simp at h
theorem unhex_none (t x : List UInt8) (h : unhex t = (x, false)) : x = [] := by
  unfold unhex at h
  split at h
  · cases hu : unhexAt t (t.length / 2) with
    | none => rw [hu] at h; simpa using h.symm
    | some o => rw [hu] at h; simp at h
  · simpa using h.symm
theorem unhex_short (t x : List UInt8) (b : Bool) (h : unhex t = (x, b)) : x.length ≤ t.length := by
  cases b with
  | false => rw [unhex_none t x h]; simp
  | true => have := unhex_back t x h; have h2 := congrArg List.length this; rw [hex_length] at h2; omega
end Go.Proofs.YtcjagjganiigiaaDoor.Sm
