/- Packages group and sign in plain terms: powers, keys, signatures; what is signed with a right key is accepted for its public key. Nothing of the program. -/
import Derived.Test.YtaphpbiaoofmkaaGreatDoorCoV
import Derived.Test.YtaphpbiaoofmkaaGreatDoorSumM
set_option linter.unusedSectionVars false
set_option linter.unusedVariables false
set_option linter.unusedSimpArgs false
namespace Go.Proofs.YtaphpbiaoofmkaaGreatDoor.Sg
open Go Co
abbrev gP : Nat := 2305843009213693951
abbrev gN : Nat := 2305843009213693950
def powF : Nat → Nat → Nat → Nat → Nat
 | 0, r, _, _ => r
 | f + 1, r, p, e => powF f (if e % 2 = 1 then r * p % 2305843009213693951 else r) (p * p % 2305843009213693951) (e / 2)
theorem powF_succ (f r p e : Nat) : powF (f + 1) r p e = powF f (if e % 2 = 1 then r * p % 2305843009213693951 else r) (p * p % 2305843009213693951) (e / 2) := rfl
theorem powF_zero : ∀ (f r p : Nat), powF f r p 0 = r
 | 0, _, _ => rfl
 | f + 1, r, p => by rw [powF_succ, if_neg (by simp), Nat.zero_div, powF_zero f]
theorem powF_lt : ∀ (f r p e : Nat), r < 2305843009213693951 → powF f r p e < 2305843009213693951
 | 0, _, _, _, h => h
 | f + 1, r, p, e, h => by
  rw [powF_succ]
  refine powF_lt f _ _ _ ?_
  split
  ·exact Nat.mod_lt _ (by decide)
  ·exact h
theorem powF_eq : ∀ (f r p e : Nat), r < 2305843009213693951 → powF f r p e = r * p ^ (e % 2 ^ f) % 2305843009213693951
 | 0, r, p, e, h => by
  show r = _
  rw [Nat.pow_zero, Nat.mod_one, Nat.pow_zero, Nat.mul_one, Nat.mod_eq_of_lt h]
 | f + 1, r, p, e, h => by
  have hlt : (if e % 2 = 1 then r * p % 2305843009213693951 else r) < 2305843009213693951 := by
   split
   ·exact Nat.mod_lt _ (by decide)
   ·exact h
  rw [powF_succ, powF_eq f _ _ _ hlt]
  have he : e % 2 ^ (f + 1) = e % 2 + 2 * (e / 2 % 2 ^ f) := by rw [Nat.pow_succ, Nat.mul_comm (2 ^ f) 2, Nat.mod_mul]
  rw [he, Nat.pow_add, Nat.pow_mul]
  generalize e / 2 % 2 ^ f = k
  have h1 : (p * p % 2305843009213693951) ^ k % 2305843009213693951 = (p ^ 2) ^ k % 2305843009213693951 := by rw [← Nat.pow_mod, Nat.pow_two]
  split
  ·rename_i h2
   rw [h2, Nat.pow_one, ← Nat.mul_assoc]
   rw [Nat.mul_mod, h1, Nat.mod_mod, ← Nat.mul_mod]
  ·rename_i h2
   rw [show e % 2 = 0 from by omega, Nat.pow_zero, Nat.one_mul, Nat.mul_mod, h1, ← Nat.mul_mod]
def powm (b e : Nat) : Nat := powF 64 1 (b % 2305843009213693951) e
theorem powm_lt (b e : Nat) : powm b e < 2305843009213693951 := powF_lt _ _ _ _ (by decide)
theorem powm_eq (b : Nat) {e : Nat} (h : e < 2 ^ 64) : powm b e = b ^ e % 2305843009213693951 := by
 unfold powm
 rw [powF_eq _ _ _ _ (by decide), Nat.mod_eq_of_lt h, Nat.one_mul, ← Nat.pow_mod]
theorem powm_one : powm 37 1 = 37 := by decide +kernel
theorem powm_order : powm 37 2305843009213693950 = 1 := by decide +kernel
theorem pow_N : 37 ^ 2305843009213693950 % 2305843009213693951 = 1 := by rw [← powm_eq 37 (show 2305843009213693950 < 2 ^ 64 by decide)]; exact powm_order
theorem pow_kN (k : Nat) : 37 ^ (2305843009213693950 * k) % 2305843009213693951 = 1 := by
 rw [Nat.pow_mul, Nat.pow_mod, pow_N, Nat.one_pow]
theorem pow_modN (k : Nat) : 37 ^ (k % 2305843009213693950) % 2305843009213693951 = 37 ^ k % 2305843009213693951 := by
 have h : 37 ^ k % 2305843009213693951 = 37 ^ (2305843009213693950 * (k / 2305843009213693950)) * 37 ^ (k % 2305843009213693950) % 2305843009213693951 := by rw [← Nat.pow_add, Nat.div_add_mod]
 rw [h, Nat.mul_mod, pow_kN, Nat.one_mul, Nat.mod_mod]
def expI (a e : Int) : Nat := powm (a % (2305843009213693951 : Int)).toNat (if e < 0 then (e % (2305843009213693950 : Int)).toNat else e.toNat)
def mulI (a b : Int) : Nat := (a % 2305843009213693951).toNat * (b % 2305843009213693951).toNat % 2305843009213693951
def mulNI (a b : Int) : Nat := (a % 2305843009213693950).toNat * (b % 2305843009213693950).toNat % 2305843009213693950
theorem mulI_nat {x y : Nat} (hx : x < 2305843009213693951) (hy : y < 2305843009213693951) : mulI x y = x * y % 2305843009213693951 := by
 unfold mulI
 rw [show ((x : Int) % 2305843009213693951).toNat = x by omega, show ((y : Int) % 2305843009213693951).toNat = y by omega]
def hash (s : By) : Nat := Sm.num (Sm.sha s)
theorem hash_lt (s : By) : hash s < 2305843009213693952 := by
 have := Sm.nat8_lt (Sm.sha s) 8
 unfold hash Sm.num
 omega
def reduce (h : Nat) : Nat := 1 + h % (2305843009213693950 - 1)
theorem reduce_lt (h : Nat) : 1 ≤ reduce h ∧ reduce h < 2305843009213693950 := by
 unfold reduce
 have := Nat.mod_lt h (show 2305843009213693950 - 1 > 0 by decide)
 omega
abbrev wSign : By := [115, 105, 103, 110]
abbrev wNonce : By := [110, 111, 110, 99, 101]
abbrev wKey : By := [107, 101, 121]
def challenge (r p : Int) (m : By) : Nat := hash (text wSign ++ numI r ++ numI p ++ text m) % 2305843009213693950
theorem challenge_lt (r p : Int) (m : By) : challenge r p m < 2305843009213693950 := Nat.mod_lt _ (by decide)
structure Key where
 secret : Int
 pub : Int
 deriving DecidableEq
structure Sig where
 e : Int
 s : Int
 deriving DecidableEq
def keyOf (s : Int) : Key := if s < 1 ∨ 2305843009213693949 < s then ⟨0, 0⟩ else ⟨s, powm 37 s.toNat⟩
def Key.right (k : Key) : Bool := decide (1 ≤ k.secret) && decide (k = keyOf k.secret)
def keySeed (seed : By) : Key := keyOf (reduce (hash (text wKey ++ text seed)))
def nonce (k : Key) (m : By) : Nat := reduce (hash (text wNonce ++ numI k.secret ++ text m))
def sign (k : Key) (m : By) : Sig :=
 if k.right then ⟨challenge (powm 37 (nonce k m)) k.pub m, ((nonce k m + challenge (powm 37 (nonce k m)) k.pub m * k.secret.toNat) % 2305843009213693950 : Nat)⟩ else ⟨0, 0⟩
def inOrder (n : Int) : Bool := decide (0 ≤ n) && decide (n < 2305843009213693950)
def commit (p : Int) (s : Sig) : Nat := powm 37 s.s.toNat * powm p.toNat (2305843009213693950 - s.e).toNat % 2305843009213693951
def verify (p : Int) (m : By) (s : Sig) : Bool :=
 decide (1 ≤ p) && decide (p < 2305843009213693951) && inOrder s.e && inOrder s.s && decide (s.e = challenge (commit p s) p m)
theorem Key.right_iff {k : Key} : k.right = true ↔ 1 ≤ k.secret ∧ k.secret ≤ 2305843009213693949 ∧ k.pub = powm 37 k.secret.toNat := by
 unfold Key.right keyOf
 obtain ⟨s, p⟩ := k
 simp only [Bool.and_eq_true, decide_eq_true_eq]
 constructor
 ·rintro ⟨h1, h2⟩
  split at h2
  ·injection h2; omega
  ·injection h2 with h3 h4
   exact ⟨h1, by omega, h4⟩
 ·rintro ⟨h1, h2, h3⟩
  rw [if_neg (by omega)]
  exact ⟨h1, by rw [h3]⟩
theorem Key.right_zero : Key.right ⟨0, 0⟩ = false := rfl
theorem keyOf_right {s : Int} (h1 : 1 ≤ s) (h2 : s ≤ 2305843009213693949) : (keyOf s).right = true := by
 unfold keyOf
 rw [if_neg (by omega), Key.right_iff]
 exact ⟨h1, h2, rfl⟩
theorem keySeed_right (seed : By) : (keySeed seed).right = true := by
 have := reduce_lt (hash (text wKey ++ text seed))
 exact keyOf_right (by omega) (by omega)
theorem pow_pos {x : Nat} (h : x ≤ 2305843009213693950) : 37 ^ x % 2305843009213693951 ≠ 0 := by
 intro h0
 have h1 : 37 ^ 2305843009213693950 % 2305843009213693951 = 37 ^ x * 37 ^ (2305843009213693950 - x) % 2305843009213693951 := by rw [← Nat.pow_add]; congr 2; omega
 rw [Nat.mul_mod, h0, Nat.zero_mul, Nat.zero_mod, pow_N] at h1
 exact absurd h1 (by decide)
theorem pub_range {k : Key} (h : k.right = true) : 1 ≤ k.pub ∧ k.pub < 2305843009213693951 := by
 obtain ⟨h1, h2, h3⟩ := Key.right_iff.1 h
 have := powm_lt 37 k.secret.toNat
 have h4 := powm_eq 37 (e := k.secret.toNat) (by omega)
 have h5 := pow_pos (x := k.secret.toNat) (by omega)
 rw [← h4] at h5
 omega
theorem commit_sign (u e x : Nat) (he : e ≤ 2305843009213693950) : 37 ^ ((u + e * x) % 2305843009213693950) % 2305843009213693951 * ((37 ^ x % 2305843009213693951) ^ (2305843009213693950 - e) % 2305843009213693951) % 2305843009213693951 = 37 ^ u % 2305843009213693951 := by
 rw [pow_modN, ← Nat.pow_mod, ← Nat.pow_mul, ← Nat.mul_mod, ← Nat.pow_add]
 have : u + e * x + x * (2305843009213693950 - e) = u + 2305843009213693950 * x := by
  rw [Nat.mul_comm e x, Nat.add_assoc, ← Nat.mul_add, Nat.add_sub_cancel' he, Nat.mul_comm]
 rw [this, Nat.pow_add, Nat.mul_mod, pow_kN, Nat.mul_one, Nat.mod_mod]
theorem verify_sign {k : Key} (h : k.right = true) (m : By) : verify k.pub m (sign k m) = true := by
 obtain ⟨p1, p2⟩ := pub_range h
 obtain ⟨h1, h2, h3⟩ := Key.right_iff.1 h
 have hu := reduce_lt (hash (text wNonce ++ numI k.secret ++ text m))
 change 1 ≤ nonce k m ∧ nonce k m < 2305843009213693950 at hu
 unfold sign
 rw [if_pos h]
 have he := challenge_lt (powm 37 (nonce k m)) k.pub m
 have hs : (nonce k m + challenge (powm 37 (nonce k m)) k.pub m * k.secret.toNat) % 2305843009213693950 < 2305843009213693950 := Nat.mod_lt _ (by decide)
 have hc : commit k.pub ⟨challenge (powm 37 (nonce k m)) k.pub m, ((nonce k m + challenge (powm 37 (nonce k m)) k.pub m * k.secret.toNat) % 2305843009213693950 : Nat)⟩ = powm 37 (nonce k m) := by
  generalize challenge (powm 37 (nonce k m)) k.pub m = e at *
  unfold commit
  simp only [Int.toNat_natCast]
  rw [h3, Int.toNat_natCast, show (2305843009213693950 - (e : Int)).toNat = 2305843009213693950 - e from by omega]
  rw [powm_eq _ (show 2305843009213693950 - e < 2 ^ 64 by omega), powm_eq _ (show k.secret.toNat < 2 ^ 64 by omega), powm_eq _ (show (nonce k m + e * k.secret.toNat) % 2305843009213693950 < 2 ^ 64 by omega), powm_eq _ (show nonce k m < 2 ^ 64 by omega)]
  exact commit_sign _ _ _ (by omega)
 unfold verify
 rw [hc]
 generalize challenge (powm 37 (nonce k m)) k.pub m = e at *
 generalize (nonce k m + e * k.secret.toNat) % 2305843009213693950 = s at *
 simp only [inOrder, Bool.and_eq_true, decide_eq_true_eq]
 refine ⟨⟨⟨⟨p1, p2⟩, ?_, ?_⟩, ?_, ?_⟩, trivial⟩ <;> omega
theorem sign_range (k : Key) (m : By) : 0 ≤ (sign k m).e ∧ (sign k m).e ≤ 2305843009213693949 ∧ 0 ≤ (sign k m).s ∧ (sign k m).s ≤ 2305843009213693949 := by
 unfold sign
 split
 ·have he := challenge_lt (powm 37 (nonce k m)) k.pub m
  have hs : (nonce k m + challenge (powm 37 (nonce k m)) k.pub m * k.secret.toNat) % 2305843009213693950 < 2305843009213693950 := Nat.mod_lt _ (by decide)
  simp only
  omega
 ·simp
end Go.Proofs.YtaphpbiaoofmkaaGreatDoor.Sg
