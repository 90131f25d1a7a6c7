/- Several texts in one, without what this claim does not use (tools/shake.py). -/
import Derived.Test.YtleljbiejeofgaaGreatDoorKa5
set_option linter.unusedSectionVars false
set_option linter.unusedVariables false
set_option linter.unusedSimpArgs false
section
namespace Go.Proofs.YtleljbiejeofgaaGreatDoor.Sg
open Go Co
def powF : Nat → Nat → Nat → Nat → Nat
 | 0, r, _, _ => r
 | f + 1, r, p, e => powF f (if e % 2 = 1 then r * p % 2305843009213693951 else r) (p * p % 2305843009213693951) (e / 2)
theorem powF_succ (f r p e : Nat) : powF (f + 1) r p e = powF f (if e % 2 = 1 then r * p % 2305843009213693951 else r) (p * p % 2305843009213693951) (e / 2) := rfl
theorem powF_zero : ∀ (f r p : Nat), powF f r p 0 = r
 | 0, _, _ => rfl
 | f + 1, r, p => by rw [powF_succ, if_neg (by simp), Nat.zero_div, powF_zero f]
theorem powF_lt : ∀ (f r p e : Nat), r < 2305843009213693951 → powF f r p e < 2305843009213693951
 | 0, _, _, _, h => h
 | f + 1, r, p, e, h => by
  rw [powF_succ]
  refine powF_lt f _ _ _ ?_
  split
  ·exact Nat.mod_lt _ (by decide)
  ·exact h
theorem powF_eq : ∀ (f r p e : Nat), r < 2305843009213693951 → powF f r p e = r * p ^ (e % 2 ^ f) % 2305843009213693951
 | 0, r, p, e, h => by
  show r = _
  rw [Nat.pow_zero, Nat.mod_one, Nat.pow_zero, Nat.mul_one, Nat.mod_eq_of_lt h]
 | f + 1, r, p, e, h => by
  have hlt : (if e % 2 = 1 then r * p % 2305843009213693951 else r) < 2305843009213693951 := by
   split
   ·exact Nat.mod_lt _ (by decide)
   ·exact h
  rw [powF_succ, powF_eq f _ _ _ hlt]
  have he : e % 2 ^ (f + 1) = e % 2 + 2 * (e / 2 % 2 ^ f) := by rw [Nat.pow_succ, Nat.mul_comm (2 ^ f) 2, Nat.mod_mul]
  rw [he, Nat.pow_add, Nat.pow_mul]
  generalize e / 2 % 2 ^ f = k
  have h1 : (p * p % 2305843009213693951) ^ k % 2305843009213693951 = (p ^ 2) ^ k % 2305843009213693951 := by rw [← Nat.pow_mod, Nat.pow_two]
  split
  ·rename_i h2
   rw [h2, Nat.pow_one, ← Nat.mul_assoc]
   rw [Nat.mul_mod, h1, Nat.mod_mod, ← Nat.mul_mod]
  ·rename_i h2
   rw [show e % 2 = 0 from by omega, Nat.pow_zero, Nat.one_mul, Nat.mul_mod, h1, ← Nat.mul_mod]
def powm (b e : Nat) : Nat := powF 64 1 (b % 2305843009213693951) e
theorem powm_lt (b e : Nat) : powm b e < 2305843009213693951 := powF_lt _ _ _ _ (by decide)
theorem powm_eq (b : Nat) {e : Nat} (h : e < 2 ^ 64) : powm b e = b ^ e % 2305843009213693951 := by
 unfold powm
 rw [powF_eq _ _ _ _ (by decide), Nat.mod_eq_of_lt h, Nat.one_mul, ← Nat.pow_mod]
theorem powm_order : powm 37 2305843009213693950 = 1 := by decide +kernel
theorem pow_N : 37 ^ 2305843009213693950 % 2305843009213693951 = 1 := by rw [← powm_eq 37 (show 2305843009213693950 < 2 ^ 64 by decide)]; exact powm_order
theorem pow_kN (k : Nat) : 37 ^ (2305843009213693950 * k) % 2305843009213693951 = 1 := by
 rw [Nat.pow_mul, Nat.pow_mod, pow_N, Nat.one_pow]
theorem pow_modN (k : Nat) : 37 ^ (k % 2305843009213693950) % 2305843009213693951 = 37 ^ k % 2305843009213693951 := by
 have h : 37 ^ k % 2305843009213693951 = 37 ^ (2305843009213693950 * (k / 2305843009213693950)) * 37 ^ (k % 2305843009213693950) % 2305843009213693951 := by rw [← Nat.pow_add, Nat.div_add_mod]
 rw [h, Nat.mul_mod, pow_kN, Nat.one_mul, Nat.mod_mod]
def expI (a e : Int) : Nat := powm (a % (2305843009213693951 : Int)).toNat (if e < 0 then (e % (2305843009213693950 : Int)).toNat else e.toNat)
def mulI (a b : Int) : Nat := (a % 2305843009213693951).toNat * (b % 2305843009213693951).toNat % 2305843009213693951
def mulNI (a b : Int) : Nat := (a % 2305843009213693950).toNat * (b % 2305843009213693950).toNat % 2305843009213693950
theorem mulI_nat {x y : Nat} (hx : x < 2305843009213693951) (hy : y < 2305843009213693951) : mulI x y = x * y % 2305843009213693951 := by
 unfold mulI
 rw [show ((x : Int) % 2305843009213693951).toNat = x by omega, show ((y : Int) % 2305843009213693951).toNat = y by omega]
def hash (s : By) : Nat := Sm.num (Sm.sha s)
theorem hash_lt (s : By) : hash s < 2305843009213693952 := by
 have := Sm.nat8_lt (Sm.sha s) 8
 unfold hash Sm.num
 omega
def reduce (h : Nat) : Nat := 1 + h % (2305843009213693950 - 1)
theorem reduce_lt (h : Nat) : 1 ≤ reduce h ∧ reduce h < 2305843009213693950 := by
 unfold reduce
 have := Nat.mod_lt h (show 2305843009213693950 - 1 > 0 by decide)
 omega
abbrev wSign : By := [115, 105, 103, 110]
abbrev wNonce : By := [110, 111, 110, 99, 101]
abbrev wKey : By := [107, 101, 121]
def challenge (r p : Int) (m : By) : Nat := hash (text wSign ++ numI r ++ numI p ++ text m) % 2305843009213693950
theorem challenge_lt (r p : Int) (m : By) : challenge r p m < 2305843009213693950 := Nat.mod_lt _ (by decide)
structure Key where
 secret : Int
 pub : Int
 deriving DecidableEq
structure Sig where
 e : Int
 s : Int
 deriving DecidableEq
def keyOf (s : Int) : Key := if s < 1 ∨ 2305843009213693949 < s then ⟨0, 0⟩ else ⟨s, powm 37 s.toNat⟩
def Key.right (k : Key) : Bool := decide (1 ≤ k.secret) && decide (k = keyOf k.secret)
def keySeed (seed : By) : Key := keyOf (reduce (hash (text wKey ++ text seed)))
def nonce (k : Key) (m : By) : Nat := reduce (hash (text wNonce ++ numI k.secret ++ text m))
def sign (k : Key) (m : By) : Sig :=
 if k.right then ⟨challenge (powm 37 (nonce k m)) k.pub m, ((nonce k m + challenge (powm 37 (nonce k m)) k.pub m * k.secret.toNat) % 2305843009213693950 : Nat)⟩ else ⟨0, 0⟩
def inOrder (n : Int) : Bool := decide (0 ≤ n) && decide (n < 2305843009213693950)
def commit (p : Int) (s : Sig) : Nat := powm 37 s.s.toNat * powm p.toNat (2305843009213693950 - s.e).toNat % 2305843009213693951
def verify (p : Int) (m : By) (s : Sig) : Bool :=
 decide (1 ≤ p) && decide (p < 2305843009213693951) && inOrder s.e && inOrder s.s && decide (s.e = challenge (commit p s) p m)
theorem Key.right_iff {k : Key} : k.right = true ↔ 1 ≤ k.secret ∧ k.secret ≤ 2305843009213693949 ∧ k.pub = powm 37 k.secret.toNat := by
 unfold Key.right keyOf
 obtain ⟨s, p⟩ := k
 simp only [Bool.and_eq_true, decide_eq_true_eq]
 constructor
 ·rintro ⟨h1, h2⟩
  split at h2
  ·injection h2; omega
  ·injection h2 with h3 h4
   exact ⟨h1, by omega, h4⟩
 ·rintro ⟨h1, h2, h3⟩
  rw [if_neg (by omega)]
  exact ⟨h1, by rw [h3]⟩
theorem keyOf_right {s : Int} (h1 : 1 ≤ s) (h2 : s ≤ 2305843009213693949) : (keyOf s).right = true := by
 unfold keyOf
 rw [if_neg (by omega), Key.right_iff]
 exact ⟨h1, h2, rfl⟩
theorem keySeed_right (seed : By) : (keySeed seed).right = true := by
 have := reduce_lt (hash (text wKey ++ text seed))
 exact keyOf_right (by omega) (by omega)
theorem pow_pos {x : Nat} (h : x ≤ 2305843009213693950) : 37 ^ x % 2305843009213693951 ≠ 0 := by
 intro h0
 have h1 : 37 ^ 2305843009213693950 % 2305843009213693951 = 37 ^ x * 37 ^ (2305843009213693950 - x) % 2305843009213693951 := by rw [← Nat.pow_add]; congr 2; omega
 rw [Nat.mul_mod, h0, Nat.zero_mul, Nat.zero_mod, pow_N] at h1
 exact absurd h1 (by decide)
theorem pub_range {k : Key} (h : k.right = true) : 1 ≤ k.pub ∧ k.pub < 2305843009213693951 := by
 obtain ⟨h1, h2, h3⟩ := Key.right_iff.1 h
 have := powm_lt 37 k.secret.toNat
 have h4 := powm_eq 37 (e := k.secret.toNat) (by omega)
 have h5 := pow_pos (x := k.secret.toNat) (by omega)
 rw [← h4] at h5
 omega
theorem commit_sign (u e x : Nat) (he : e ≤ 2305843009213693950) : 37 ^ ((u + e * x) % 2305843009213693950) % 2305843009213693951 * ((37 ^ x % 2305843009213693951) ^ (2305843009213693950 - e) % 2305843009213693951) % 2305843009213693951 = 37 ^ u % 2305843009213693951 := by
 rw [pow_modN, ← Nat.pow_mod, ← Nat.pow_mul, ← Nat.mul_mod, ← Nat.pow_add]
 have : u + e * x + x * (2305843009213693950 - e) = u + 2305843009213693950 * x := by
  rw [Nat.mul_comm e x, Nat.add_assoc, ← Nat.mul_add, Nat.add_sub_cancel' he, Nat.mul_comm]
 rw [this, Nat.pow_add, Nat.mul_mod, pow_kN, Nat.mul_one, Nat.mod_mod]
theorem verify_sign {k : Key} (h : k.right = true) (m : By) : verify k.pub m (sign k m) = true := by
 obtain ⟨p1, p2⟩ := pub_range h
 obtain ⟨h1, h2, h3⟩ := Key.right_iff.1 h
 have hu := reduce_lt (hash (text wNonce ++ numI k.secret ++ text m))
 change 1 ≤ nonce k m ∧ nonce k m < 2305843009213693950 at hu
 unfold sign
 rw [if_pos h]
 have he := challenge_lt (powm 37 (nonce k m)) k.pub m
 have hs : (nonce k m + challenge (powm 37 (nonce k m)) k.pub m * k.secret.toNat) % 2305843009213693950 < 2305843009213693950 := Nat.mod_lt _ (by decide)
 have hc : commit k.pub ⟨challenge (powm 37 (nonce k m)) k.pub m, ((nonce k m + challenge (powm 37 (nonce k m)) k.pub m * k.secret.toNat) % 2305843009213693950 : Nat)⟩ = powm 37 (nonce k m) := by
  generalize challenge (powm 37 (nonce k m)) k.pub m = e at *
  unfold commit
  simp only [Int.toNat_natCast]
  rw [h3, Int.toNat_natCast, show (2305843009213693950 - (e : Int)).toNat = 2305843009213693950 - e from by omega]
  rw [powm_eq _ (show 2305843009213693950 - e < 2 ^ 64 by omega), powm_eq _ (show k.secret.toNat < 2 ^ 64 by omega), powm_eq _ (show (nonce k m + e * k.secret.toNat) % 2305843009213693950 < 2 ^ 64 by omega), powm_eq _ (show nonce k m < 2 ^ 64 by omega)]
  exact commit_sign _ _ _ (by omega)
 unfold verify
 rw [hc]
 generalize challenge (powm 37 (nonce k m)) k.pub m = e at *
 generalize (nonce k m + e * k.secret.toNat) % 2305843009213693950 = s at *
 simp only [inOrder, Bool.and_eq_true, decide_eq_true_eq]
 refine ⟨⟨⟨⟨p1, p2⟩, ?_, ?_⟩, ?_, ?_⟩, trivial⟩ <;> omega
theorem sign_range (k : Key) (m : By) : 0 ≤ (sign k m).e ∧ (sign k m).e ≤ 2305843009213693949 ∧ 0 ≤ (sign k m).s ∧ (sign k m).s ≤ 2305843009213693949 := by
 unfold sign
 split
 ·have he := challenge_lt (powm 37 (nonce k m)) k.pub m
  have hs : (nonce k m + challenge (powm 37 (nonce k m)) k.pub m * k.secret.toNat) % 2305843009213693950 < 2305843009213693950 := Nat.mod_lt _ (by decide)
  simp only
  omega
 ·simp
end Go.Proofs.YtleljbiejeofgaaGreatDoor.Sg
end
section
namespace Go.Proofs.YtleljbiejeofgaaGreatDoor.Ac
open Go Co Sg
def hexc (b : UInt8) : Bool := (decide (48 ≤ b.toNat) && decide (b.toNat ≤ 57)) || (decide (97 ≤ b.toNat) && decide (b.toNat ≤ 102))
def idR (s : By) : Bool := decide (s.length = 16) && s.all hexc
def letter (b : UInt8) : Bool := decide (97 ≤ b.toNat) && decide (b.toNat ≤ 122)
def namec (b : UInt8) : Bool := letter b || (decide (48 ≤ b.toNat) && decide (b.toNat ≤ 57)) || decide (b.toNat = 95)
def nameR : By → Bool
 | [] => false
 | c :: r => decide (r.length ≤ 23) && letter c && r.all namec
def asc : List By → Bool
 | a :: b :: r => !(Op.bytesLess b a || b == a) && asc (b :: r)
 | _ => true
def idsR (l : List By) : Bool := decide (l.length ≤ 64) && l.all idR && asc l
structure Box where
 nonce : By
 data : By
 tag : By
 deriving DecidableEq
structure Wrap where
 to : Int
 eph : Int
 box : Box
 deriving DecidableEq
structure Act where
 author : By
 seq : Int
 prev : By
 kind : Int
 time : Int
 object : By
 target : By
 scope : Int
 group : By
 to : List By
 text : By
 body : Box
 epoch : Int
 wraps : List Wrap
 n : Int
 m : Int
 sig : Sig
 deriving DecidableEq
def box0 : Box := ⟨[], [], []⟩
def sig0 : Sig := ⟨0, 0⟩
def act0 : Act := ⟨[], 0, [], 0, 0, [], [], 0, [], [], [], box0, 0, [], 0, 0, sig0⟩
def wi (n lo hi : Int) : Bool := decide (lo ≤ n) && decide (n ≤ hi)
theorem wi_iff {n lo hi : Int} : wi n lo hi = true ↔ lo ≤ n ∧ n ≤ hi := by simp [wi]
def dig (s : By) : Bool := decide (s.length = 32)
def short (s : By) : Bool := decide (s.length ≤ 500)
def pub (n : Int) : Bool := wi n 1 2305843009213693950
def sealedB (b : Box) : Bool := decide (b.nonce.length = 32) && decide (b.tag.length = 16) && short b.data
def wrapR (w : Wrap) : Bool := pub w.to && pub w.eph && sealedB w.box
def wrapped (a : Act) : Bool := a.wraps.all wrapR && decide (a.wraps.length = a.to.length)
def sealedSc (scope : Int) (group : By) : Bool := if scope = 2 then nameR group else if scope = 1 ∨ scope = 3 then decide (group = []) else false
def audience (a : Act) : Bool :=
 idsR a.to && (if a.scope = 0 then decide (a.group = []) && decide (a.epoch = 0) && short a.text && decide (a.body = box0)
  else (decide (a.to = []) || decide (a.scope = 3)) && sealedSc a.scope a.group && wi a.epoch 0 1073741824 && decide (a.text = []) && sealedB a.body)
def home (a : Act) : Bool := pub a.n && wi a.m 0 19
def grant (a : Act) : Bool := sealedSc a.scope a.group && wi a.epoch 0 1073741824 && idsR a.to && wrapped a
def label (a : Act) : Bool := nameR a.text && ((dig a.object && decide (a.target = [])) || (idR a.target && decide (a.object = [])))
def setup (a : Act) : Bool := decide (0 < a.to.length) && idsR a.to && wrapped a && wi a.n 1 a.to.length && pub a.m
def note (z : Bool) (f s : Int) : Int := if z then s else Go.bits .or .i64 s f
def used (a : Act) : Int :=
 note (decide (a.m = 0)) 1024 <| note (decide (a.n = 0)) 512 <| note (decide (a.wraps = [])) 256 <| note (decide (a.epoch = 0)) 128 <| note (decide (a.body = box0)) 64 <|
 note (decide (a.text = [])) 32 <| note (decide (a.to = [])) 16 <| note (decide (a.group = [])) 8 <| note (decide (a.scope = 0)) 4 <| note (decide (a.target = [])) 2 <| note (decide (a.object = [])) 1 0
inductive Ru where
 | begin | post | reply | about | tie | reason | circle | grant | label | move | setup | judge | list
 deriving DecidableEq
def Ru.mask : Ru → Int
 | .begin => 1568
 | .post => 252
 | .reply => 253
 | .about => 1
 | .tie => 2
 | .reason => 33
 | .circle => 24
 | .grant => 412
 | .label => 35
 | .move => 1536
 | .setup => 1808
 | .judge => 513
 | .list => 546
def Ru.ok (a : Act) : Ru → Bool
 | .begin => nameR a.text && home a
 | .post => audience a
 | .reply => dig a.object && audience a
 | .about => dig a.object
 | .tie => idR a.target
 | .reason => dig a.object && short a.text
 | .circle => nameR a.group && idsR a.to
 | .grant => Ac.grant a
 | .label => Ac.label a
 | .move => home a
 | .setup => Ac.setup a
 | .judge => dig a.object && wi a.n 0 1
 | .list => idR a.target && short a.text && wi a.n 0 1099511627776
def ruleL : List (Int × Ru) := [(0, .begin), (1, .post), (2, .reply), (3, .reply), (14, .reply), (4, .about), (5, .about), (6, .about), (13, .about), (20, .about), (7, .tie), (8, .tie), (9, .tie), (10, .tie), (11, .tie), (12, .reason), (21, .reason), (15, .circle), (16, .grant), (17, .label), (18, .move), (19, .setup), (22, .judge), (23, .list)]
def rule (k : Int) : Option Ru := ruleL.lookup k
def placed (a : Act) : Bool := if a.seq = 0 then decide (a.kind = 0) && decide (a.prev = []) else wi a.seq 1 1073741824 && decide (a.kind ≠ 0) && dig a.prev
def sigR (s : Sig) : Bool := wi s.e 0 2305843009213693949 && wi s.s 0 2305843009213693949
def right (a : Act) : Bool := idR a.author && placed a && wi a.time 0 1099511627776 && sigR a.sig &&
 (match rule a.kind with
 | none => false
 | some r => decide (Go.bits .andNot .i64 (used a) r.mask = 0) && r.ok a)
def boxB (b : Box) : By := text b.nonce ++ text b.data ++ text b.tag
def wrapB (w : Wrap) : By := numI w.to ++ numI w.eph ++ boxB w.box
abbrev wAct : By := [97, 99, 116]
def coreB (a : Act) : By :=
 text wAct ++ text a.author ++ numI a.seq ++ text a.prev ++ numI a.kind ++ numI a.time ++ text a.object ++ text a.target ++ numI a.scope ++ text a.group ++ list a.to ++ text a.text ++ boxB a.body ++ numI a.epoch ++ num a.wraps.length ++ (a.wraps.map wrapB).flatten ++ numI a.n ++ numI a.m
def core (a : Act) : By := if right a then coreB a else []
def bytes (a : Act) : By := if right a then coreB a ++ numI a.sig.e ++ numI a.sig.s else []
def rBox (x : R) : Box × R := (⟨x.text.1, x.text.2.text.1, x.text.2.text.2.text.1⟩, x.text.2.text.2.text.2)
def rNum (x : R) : Int × R := ((x.num.1 : Int), x.num.2)
def rWrap (x : R) : Wrap × R :=
 let a := rNum x
 let b := rNum a.2
 let c := rBox b.2
 (⟨a.1, b.1, c.1⟩, c.2)
def rWrapsN : Nat → R → Option (List Wrap) × R
 | 0, x => (some [], x)
 | n + 1, x => if (rWrap x).2.rest = [] then (none, (rWrap x).2) else ((rWrapsN n (rWrap x).2).1.map ((rWrap x).1 :: ·), (rWrapsN n (rWrap x).2).2)
def rWraps (x : R) : List Wrap × R := ((rWrapsN x.num.1 x.num.2).1.getD [], (rWrapsN x.num.1 x.num.2).2)
def rAct (x : R) : Act × R :=
 let author := x.text
 let seq := rNum author.2
 let prev := seq.2.text
 let kind := rNum prev.2
 let time := rNum kind.2
 let object := time.2.text
 let target := object.2.text
 let scope := rNum target.2
 let group := scope.2.text
 let to := group.2.list
 let text := to.2.text
 let body := rBox text.2
 let epoch := rNum body.2
 let wraps := rWraps epoch.2
 let n := rNum wraps.2
 let m := rNum n.2
 let e := rNum m.2
 let s := rNum e.2
 (⟨author.1, seq.1, prev.1, kind.1, time.1, object.1, target.1, scope.1, group.1, to.1, text.1, body.1, epoch.1, wraps.1, n.1, m.1, ⟨e.1, s.1⟩⟩, s.2)
def _root_.Go.Proofs.YtleljbiejeofgaaGreatDoor.Co.R.done (x : R) : Bool := !x.bad && x.rest == []
def read (s : By) : Act × Bool :=
 let x : R := ⟨s, false⟩
 if x.text.1 = wAct ∧ (rAct x.text.2).2.done = true ∧ bytes (rAct x.text.2).1 = s then ((rAct x.text.2).1, true) else (act0, false)
def usedB (o t s g l x b e w n m : Bool) : Int :=
 note m 1024 <| note n 512 <| note w 256 <| note e 128 <| note b 64 <| note x 32 <| note l 16 <| note g 8 <| note s 4 <| note t 2 <| note o 1 0
def outB (o t s g l x b e w n m : Bool) : Ru → Bool
 | .begin => o && t && s && g && l && b && e && w
 | .post => o && t && w && n && m
 | .reply => t && w && n && m
 | .about => t && s && g && l && x && b && e && w && n && m
 | .tie => o && s && g && l && x && b && e && w && n && m
 | .reason => t && s && g && l && b && e && w && n && m
 | .circle => o && t && s && x && b && e && w && n && m
 | .grant => o && t && x && b && n && m
 | .label => s && g && l && b && e && w && n && m
 | .move => o && t && s && g && l && x && b && e && w
 | .setup => o && t && s && g && x && b && e
 | .judge => t && s && g && l && x && b && e && w && m
 | .list => o && s && g && l && b && e && w && m
theorem mask_eq (r : Ru) : ∀ o t s g l x b e w n m : Bool, decide (Go.bits .andNot .i64 (usedB o t s g l x b e w n m) r.mask = 0) = outB o t s g l x b e w n m r := by
 cases r <;> decide +kernel
def out (a : Act) (r : Ru) : Bool := outB (decide (a.object = [])) (decide (a.target = [])) (decide (a.scope = 0)) (decide (a.group = [])) (decide (a.to = [])) (decide (a.text = [])) (decide (a.body = box0)) (decide (a.epoch = 0)) (decide (a.wraps = [])) (decide (a.n = 0)) (decide (a.m = 0)) r
theorem right_iff {a : Act} : right a = true ↔ idR a.author = true ∧ placed a = true ∧ wi a.time 0 1099511627776 = true ∧ sigR a.sig = true ∧ ∃ r, rule a.kind = some r ∧ out a r = true ∧ r.ok a = true := by
 unfold right
 cases h : rule a.kind with
 | none => simp
 | some r =>
  have e : decide (Go.bits .andNot .i64 (used a) r.mask = 0) = out a r := mask_eq r _ _ _ _ _ _ _ _ _ _ _
  simp only [e, Bool.and_eq_true, and_assoc, Option.some.injEq, exists_eq_left']
theorem rule_mem {k : Int} {r : Ru} (h : rule k = some r) : (k, r) ∈ ruleL := by
 unfold rule at h
 generalize ruleL = l at h ⊢
 induction l with
 | nil => cases h
 | cons p l ih =>
  obtain ⟨j, s⟩ := p
  rw [List.lookup_cons] at h
  by_cases e : k = j
  ·subst e
   simp at h
   subst h
   simp
  ·rw [show (k == j) = false by simpa using e] at h
   exact List.mem_cons_of_mem _ (ih h)
theorem rule_range {k : Int} {r : Ru} (h : rule k = some r) : 0 ≤ k ∧ k ≤ 23 := by
 have := rule_mem h
 simp only [ruleL, List.mem_cons, Prod.mk.injEq, List.not_mem_nil, or_false] at this
 omega
theorem idR_len {s : By} (h : idR s = true) : s.length = 16 := by simp only [idR, Bool.and_eq_true, decide_eq_true_eq] at h; exact h.1
theorem nameR_len {s : By} (h : nameR s = true) : s.length ≤ 24 := by
 cases s with
 | nil => cases h
 | cons c r => simp only [nameR, Bool.and_eq_true, decide_eq_true_eq] at h; simp only [List.length_cons]; omega
theorem idsR_len {l : List By} (h : idsR l = true) : l.length ≤ 64 ∧ ∀ s ∈ l, s.length = 16 := by
 simp only [idsR, Bool.and_eq_true, decide_eq_true_eq, List.all_eq_true] at h
 exact ⟨h.1.1, fun s hs => idR_len (h.1.2 s hs)⟩
theorem sealedSc_len {sc : Int} {g : By} (h : sealedSc sc g = true) : g.length ≤ 24 ∧ 1 ≤ sc ∧ sc ≤ 3 := by
 unfold sealedSc at h
 split at h
 ·exact ⟨nameR_len h, by omega, by omega⟩
 ·split at h
  ·have h := of_decide_eq_true h; subst h; exact ⟨by simp, by omega, by omega⟩
  ·cases h
theorem sealedB_len {b : Box} (h : sealedB b = true) : b.nonce.length = 32 ∧ b.tag.length = 16 ∧ b.data.length ≤ 500 := by
 simp only [sealedB, short, Bool.and_eq_true, decide_eq_true_eq] at h
 exact ⟨h.1.1, h.1.2, h.2⟩
structure Sm (a : Act) : Prop where
 author : a.author.length ≤ 16
 seq : 0 ≤ a.seq ∧ a.seq ≤ 1073741824
 prev : a.prev.length ≤ 32
 kind : 0 ≤ a.kind ∧ a.kind ≤ 23
 time : 0 ≤ a.time ∧ a.time ≤ 1099511627776
 object : a.object.length ≤ 32
 target : a.target.length ≤ 16
 scope : 0 ≤ a.scope ∧ a.scope ≤ 3
 group : a.group.length ≤ 24
 to : a.to.length ≤ 64 ∧ ∀ s ∈ a.to, s.length = 16
 text : a.text.length ≤ 500
 body : a.body.nonce.length ≤ 32 ∧ a.body.data.length ≤ 500 ∧ a.body.tag.length ≤ 16
 epoch : 0 ≤ a.epoch ∧ a.epoch ≤ 1073741824
 wraps : a.wraps.length ≤ 64 ∧ ∀ w ∈ a.wraps, wrapR w = true
 n : 0 ≤ a.n ∧ a.n ≤ 2305843009213693950
 m : 0 ≤ a.m ∧ a.m ≤ 2305843009213693950
 sig : sigR a.sig = true
theorem dig_len {s : By} (h : dig s = true) : s.length ≤ 32 := by have := of_decide_eq_true h; omega
theorem short_len {s : By} (h : short s = true) : s.length ≤ 500 := of_decide_eq_true h
theorem wrapped_sm {a : Act} (h : wrapped a = true) (ht : a.to.length ≤ 64) : a.wraps.length ≤ 64 ∧ ∀ w ∈ a.wraps, wrapR w = true := by
 simp only [wrapped, Bool.and_eq_true, decide_eq_true_eq, List.all_eq_true] at h
 exact ⟨by omega, h.1⟩
structure Aud (a : Act) : Prop where
 scope : 0 ≤ a.scope ∧ a.scope ≤ 3
 group : a.group.length ≤ 24
 to : a.to.length ≤ 64 ∧ ∀ s ∈ a.to, s.length = 16
 text : a.text.length ≤ 500
 body : a.body.nonce.length ≤ 32 ∧ a.body.data.length ≤ 500 ∧ a.body.tag.length ≤ 16
 epoch : 0 ≤ a.epoch ∧ a.epoch ≤ 1073741824
theorem audience_sm {a : Act} (h : audience a = true) : Aud a := by
 unfold audience at h
 rw [Bool.and_eq_true] at h
 obtain ⟨h1, h2⟩ := h
 have h1 := idsR_len h1
 split at h2
 ·rename_i h0
  simp only [Bool.and_eq_true, decide_eq_true_eq] at h2
  obtain ⟨⟨⟨a1, a2⟩, a3⟩, a4⟩ := h2
  exact ⟨by omega, by rw [a1]; simp, h1, short_len a3, by rw [a4]; simp [box0], by omega⟩
 ·simp only [Bool.and_eq_true, decide_eq_true_eq, wi_iff] at h2
  obtain ⟨⟨⟨⟨_, a1⟩, a2⟩, a3⟩, a4⟩ := h2
  have b1 := sealedSc_len a1
  have b4 := sealedB_len a4
  exact ⟨by omega, b1.1, h1, by rw [a3]; simp, by omega, a2⟩
theorem right_sm {a : Act} (h : right a = true) : Sm a := by
 obtain ⟨h1, h2, h3, h4, r, h5, h6, h7⟩ := right_iff.1 h
 have k := rule_range h5
 have hp : a.prev.length ≤ 32 ∧ 0 ≤ a.seq ∧ a.seq ≤ 1073741824 := by
  unfold placed at h2
  split at h2
  ·simp only [Bool.and_eq_true, decide_eq_true_eq] at h2; rw [h2.2]; simp; omega
  ·simp only [Bool.and_eq_true, decide_eq_true_eq, wi_iff] at h2; have := dig_len h2.2; omega
 have h1 := idR_len h1
 rw [wi_iff] at h3
 clear h2
 cases r <;> simp only [out, outB, Bool.and_eq_true, decide_eq_true_eq] at h6 <;> simp only [Ru.ok, Bool.and_eq_true] at h7
 case begin =>
  obtain ⟨⟨⟨⟨⟨⟨⟨a1, a2⟩, a3⟩, a4⟩, a5⟩, a6⟩, a7⟩, a8⟩ := h6
  obtain ⟨b1, b2⟩ := h7
  simp only [home, pub, Bool.and_eq_true, wi_iff] at b2
  have := nameR_len b1
  exact ⟨by omega, hp.2, hp.1, k, h3, by simp [a1], by simp [a2], by omega, by simp [a4], by simp [a5], by omega, by simp [a6, box0], by omega, by simp [a8], by omega, by omega, h4⟩
 case post =>
  obtain ⟨⟨⟨⟨a1, a2⟩, a3⟩, a4⟩, a5⟩ := h6
  have c := audience_sm h7
  exact ⟨by omega, hp.2, hp.1, k, h3, by simp [a1], by simp [a2], c.scope, c.group, c.to, c.text, c.body, c.epoch, by simp [a3], by omega, by omega, h4⟩
 case reply =>
  obtain ⟨⟨⟨a2, a3⟩, a4⟩, a5⟩ := h6
  have c := audience_sm h7.2
  exact ⟨by omega, hp.2, hp.1, k, h3, dig_len h7.1, by simp [a2], c.scope, c.group, c.to, c.text, c.body, c.epoch, by simp [a3], by omega, by omega, h4⟩
 case about =>
  obtain ⟨⟨⟨⟨⟨⟨⟨⟨⟨a1, a2⟩, a3⟩, a4⟩, a5⟩, a6⟩, a7⟩, a8⟩, a9⟩, a10⟩ := h6
  exact ⟨by omega, hp.2, hp.1, k, h3, dig_len h7, by simp [a1], by omega, by simp [a3], by simp [a4], by simp [a5], by simp [a6, box0], by omega, by simp [a8], by omega, by omega, h4⟩
 case tie =>
  obtain ⟨⟨⟨⟨⟨⟨⟨⟨⟨a1, a2⟩, a3⟩, a4⟩, a5⟩, a6⟩, a7⟩, a8⟩, a9⟩, a10⟩ := h6
  have := idR_len h7
  exact ⟨by omega, hp.2, hp.1, k, h3, by simp [a1], by omega, by omega, by simp [a3], by simp [a4], by simp [a5], by simp [a6, box0], by omega, by simp [a8], by omega, by omega, h4⟩
 case reason =>
  obtain ⟨⟨⟨⟨⟨⟨⟨⟨a1, a2⟩, a3⟩, a4⟩, a6⟩, a7⟩, a8⟩, a9⟩, a10⟩ := h6
  exact ⟨by omega, hp.2, hp.1, k, h3, dig_len h7.1, by simp [a1], by omega, by simp [a3], by simp [a4], short_len h7.2, by simp [a6, box0], by omega, by simp [a8], by omega, by omega, h4⟩
 case circle =>
  obtain ⟨⟨⟨⟨⟨⟨⟨⟨a1, a2⟩, a3⟩, a5⟩, a6⟩, a7⟩, a8⟩, a9⟩, a10⟩ := h6
  have g := nameR_len h7.1
  exact ⟨by omega, hp.2, hp.1, k, h3, by simp [a1], by simp [a2], by omega, g, idsR_len h7.2, by simp [a5], by simp [a6, box0], by omega, by simp [a8], by omega, by omega, h4⟩
 case grant =>
  obtain ⟨⟨⟨⟨⟨a1, a2⟩, a5⟩, a6⟩, a9⟩, a10⟩ := h6
  simp only [grant, Bool.and_eq_true, wi_iff] at h7
  obtain ⟨⟨⟨b1, b2⟩, b3⟩, b4⟩ := h7
  have c1 := sealedSc_len b1
  have c3 := idsR_len b3
  exact ⟨by omega, hp.2, hp.1, k, h3, by simp [a1], by simp [a2], by omega, c1.1, c3, by simp [a5], by simp [a6, box0], b2, wrapped_sm b4 c3.1, by omega, by omega, h4⟩
 case label =>
  obtain ⟨⟨⟨⟨⟨⟨⟨a3, a4⟩, a5⟩, a6⟩, a7⟩, a8⟩, a9⟩, a10⟩ := h6
  simp only [label, Bool.and_eq_true, Bool.or_eq_true, decide_eq_true_eq] at h7
  have b1 := nameR_len h7.1
  have b2 : a.object.length ≤ 32 ∧ a.target.length ≤ 16 := by
   rcases h7.2 with ⟨x, y⟩ | ⟨x, y⟩
   ·exact ⟨dig_len x, by simp [y]⟩
   ·exact ⟨by simp [y], by have := idR_len x; omega⟩
  exact ⟨by omega, hp.2, hp.1, k, h3, b2.1, b2.2, by omega, by simp [a4], by simp [a5], by omega, by simp [a6, box0], by omega, by simp [a8], by omega, by omega, h4⟩
 case move =>
  obtain ⟨⟨⟨⟨⟨⟨⟨⟨a1, a2⟩, a3⟩, a4⟩, a5⟩, a6⟩, a7⟩, a8⟩, a9⟩ := h6
  simp only [home, pub, Bool.and_eq_true, wi_iff] at h7
  exact ⟨by omega, hp.2, hp.1, k, h3, by simp [a1], by simp [a2], by omega, by simp [a4], by simp [a5], by simp [a6], by simp [a7, box0], by omega, by simp [a9], by omega, by omega, h4⟩
 case setup =>
  obtain ⟨⟨⟨⟨⟨⟨a1, a2⟩, a3⟩, a4⟩, a6⟩, a7⟩, a8⟩ := h6
  simp only [setup, pub, Bool.and_eq_true, wi_iff, decide_eq_true_eq] at h7
  obtain ⟨⟨⟨⟨b0, b1⟩, b2⟩, b3⟩, b4⟩ := h7
  have c1 := idsR_len b1
  exact ⟨by omega, hp.2, hp.1, k, h3, by simp [a1], by simp [a2], by omega, by simp [a4], c1, by simp [a6], by simp [a7, box0], by omega, wrapped_sm b2 c1.1, by omega, by omega, h4⟩
 case judge =>
  obtain ⟨⟨⟨⟨⟨⟨⟨⟨a1, a2⟩, a3⟩, a4⟩, a5⟩, a6⟩, a7⟩, a8⟩, a10⟩ := h6
  rw [wi_iff] at h7
  exact ⟨by omega, hp.2, hp.1, k, h3, dig_len h7.1, by simp [a1], by omega, by simp [a3], by simp [a4], by simp [a5], by simp [a6, box0], by omega, by simp [a8], by omega, by omega, h4⟩
 case list =>
  obtain ⟨⟨⟨⟨⟨⟨⟨a1, a2⟩, a3⟩, a4⟩, a6⟩, a7⟩, a8⟩, a10⟩ := h6
  simp only [Bool.and_eq_true, wi_iff] at h7
  obtain ⟨⟨b1, b2⟩, b3⟩ := h7
  have := idR_len b1
  exact ⟨by omega, hp.2, hp.1, k, h3, by simp [a1], by omega, by omega, by simp [a3], by simp [a4], short_len b2, by simp [a6, box0], by omega, by simp [a8], by omega, by omega, h4⟩
theorem numI_ne {n : Int} (h : 0 ≤ n) : numI n ≠ [] := by
 unfold numI
 rw [if_neg (by omega)]
 intro e
 have := num_len n.toNat
 rw [e] at this
 simp at this
theorem bytes_wrong {a : Act} (h : right a = false) : bytes a = [] ∧ core a = [] := by
 unfold bytes core
 simp [h]
theorem core_ne {a : Act} (h : right a = true) : core a ≠ [] := by
 unfold core coreB
 rw [if_pos h]
 simp [text, num_small]
theorem bytes_core (a : Act) : bytes a = if core a = [] then [] else core a ++ numI a.sig.e ++ numI a.sig.s := by
 cases h : right a with
 | false => rw [(bytes_wrong h).1, (bytes_wrong h).2]; rfl
 | true =>
  rw [if_neg (core_ne h)]
  unfold bytes core
  rw [if_pos h, if_pos h]
end Go.Proofs.YtleljbiejeofgaaGreatDoor.Ac
end
section
namespace Go.Proofs.YtleljbiejeofgaaGreatDoor.It
open Go Co Sg Ac
structure Claim where
 actor : By
 base : Int
 prev : By
 gen : Int
 home : Int
 pub : Int
 time : Int
 sig : Sig
 deriving DecidableEq
structure Ballot where
 server : Int
 actor : By
 gen : Int
 claim : By
 time : Int
 sig : Sig
 deriving DecidableEq
structure Decision where
 server : Int
 number : Int
 kind : Int
 actor : By
 object : By
 text : By
 to : List By
 n : Int
 frm : Int
 til : Int
 sig : Sig
 deriving DecidableEq
structure Item where
 kind : Int
 act : Ac.Act
 claim : Claim
 ballot : Ballot
 decision : Decision
 deriving DecidableEq
structure Entry where
 time : Int
 item : Item
 deriving DecidableEq
def claim0 : Claim := ⟨[], 0, [], 0, 0, 0, 0, sig0⟩
def ballot0 : Ballot := ⟨0, [], 0, [], 0, sig0⟩
def decision0 : Decision := ⟨0, 0, 0, [], [], [], [], 0, 0, 0, sig0⟩
def item0 : Item := ⟨0, act0, claim0, ballot0, decision0⟩
def entry0 : Entry := ⟨0, item0⟩
def isServer (n : Int) : Bool := wi n 0 19
def isTime (n : Int) : Bool := wi n 0 1099511627776
def rightClaim (c : Claim) : Bool := idR c.actor && wi c.base 1 1073741824 && dig c.prev && wi c.gen 0 1073741824 && isServer c.home && wi c.pub 1 2305843009213693950 && isTime c.time && sigR c.sig
def rightBallot (b : Ballot) : Bool := isServer b.server && idR b.actor && wi b.gen 0 1073741824 && dig b.claim && isTime b.time && sigR b.sig
def plainD (d : Decision) : Bool := decide (d.to = []) && decide (d.n = 0)
def rightTerms (d : Decision) : Bool :=
 if d.kind = 0 ∨ d.kind = 1 ∨ d.kind = 4 ∨ d.kind = 6 ∨ d.kind = 7 then idR d.actor && decide (d.object = []) && short d.text && plainD d
 else if d.kind = 2 ∨ d.kind = 3 ∨ d.kind = 5 then decide (d.actor = []) && dig d.object && short d.text && plainD d
 else if d.kind = 8 then decide (d.actor = []) && decide (d.object = []) && short d.text && idsR d.to && wi d.n 1 d.to.length
 else if d.kind = 9 then decide (d.actor = []) && decide (d.object = []) && decide (d.text.length ≤ 4096) && plainD d
 else false
def rightDecision (d : Decision) : Bool := isServer d.server && wi d.number 0 1073741824 && isTime d.frm && isTime d.til && decide (d.frm < d.til) && rightTerms d && sigR d.sig
def rest (it : Item) : Item :=
 if it.kind = 0 then { it with kind := 0, act := act0 } else if it.kind = 1 then { it with kind := 0, claim := claim0 } else if it.kind = 2 then { it with kind := 0, ballot := ballot0 } else if it.kind = 3 then { it with kind := 0, decision := decision0 } else { it with kind := 0 }
def rightField (it : Item) : Bool := if it.kind = 0 then Ac.right it.act else if it.kind = 1 then rightClaim it.claim else if it.kind = 2 then rightBallot it.ballot else if it.kind = 3 then rightDecision it.decision else false
def right (it : Item) : Bool := rightField it && decide (rest it = item0)
def claimB (c : Claim) : By := text c.actor ++ numI c.base ++ text c.prev ++ numI c.gen ++ numI c.home ++ numI c.pub ++ numI c.time
def ballotB (b : Ballot) : By := numI b.server ++ text b.actor ++ numI b.gen ++ text b.claim ++ numI b.time
def decisionB (d : Decision) : By := numI d.server ++ numI d.number ++ numI d.kind ++ text d.actor ++ text d.object ++ text d.text ++ list d.to ++ numI d.n ++ numI d.frm ++ numI d.til
abbrev wClaim : By := [99, 108, 97, 105, 109]
abbrev wBallot : By := [98, 97, 108, 108, 111, 116]
abbrev wDecision : By := [100, 101, 99, 105, 115, 105, 111, 110]
def sigOf (it : Item) : Sig := if it.kind = 1 then it.claim.sig else if it.kind = 2 then it.ballot.sig else it.decision.sig
def coreOf (it : Item) : By := if it.kind = 1 then claimB it.claim else if it.kind = 2 then ballotB it.ballot else decisionB it.decision
def nameOf (it : Item) : By := if it.kind = 1 then wClaim else if it.kind = 2 then wBallot else wDecision
def message (it : Item) : By := text (nameOf it) ++ coreOf it
def signedBy (p : Int) (it : Item) : Bool := verify p (message it) (sigOf it)
def bodyB (it : Item) : By := if it.kind = 0 then Ac.bytes it.act else coreOf it ++ (numI (sigOf it).e ++ numI (sigOf it).s)
def bytes (it : Item) : By := if right it then numI it.kind ++ bodyB it else []
def rSig (x : R) : Sig × R := (⟨(rNum x).1, (rNum (rNum x).2).1⟩, (rNum (rNum x).2).2)
def rClaim (x : R) : Claim × R :=
 let actor := x.text
 let base := rNum actor.2
 let prev := base.2.text
 let gen := rNum prev.2
 let home := rNum gen.2
 let pub := rNum home.2
 let time := rNum pub.2
 let s := rSig time.2
 (⟨actor.1, base.1, prev.1, gen.1, home.1, pub.1, time.1, s.1⟩, s.2)
def rBallot (x : R) : Ballot × R :=
 let server := rNum x
 let actor := server.2.text
 let gen := rNum actor.2
 let claim := gen.2.text
 let time := rNum claim.2
 let s := rSig time.2
 (⟨server.1, actor.1, gen.1, claim.1, time.1, s.1⟩, s.2)
def rDecision (x : R) : Decision × R :=
 let server := rNum x
 let number := rNum server.2
 let kind := rNum number.2
 let actor := kind.2.text
 let object := actor.2.text
 let text := object.2.text
 let to := text.2.list
 let n := rNum to.2
 let frm := rNum n.2
 let til := rNum frm.2
 let s := rSig til.2
 (⟨server.1, number.1, kind.1, actor.1, object.1, text.1, to.1, n.1, frm.1, til.1, s.1⟩, s.2)
def rItem (x : R) : Item × Bool × R :=
 let k := rNum x
 if k.1 = 0 then
  let t := k.2.take k.2.rest.length
  let a := Ac.read t.1
  ({ item0 with act := a.1 }, a.2, t.2)
 else if k.1 = 1 then ({ item0 with kind := 1, claim := (rClaim k.2).1 }, true, (rClaim k.2).2)
 else if k.1 = 2 then ({ item0 with kind := 2, ballot := (rBallot k.2).1 }, true, (rBallot k.2).2)
 else if k.1 = 3 then ({ item0 with kind := 3, decision := (rDecision k.2).1 }, true, (rDecision k.2).2)
 else ({ item0 with kind := k.1 }, true, k.2)
def read (s : By) : Item × Bool :=
 let x := rItem ⟨s, false⟩
 if x.2.1 = true ∧ x.2.2.done = true ∧ s ≠ [] ∧ bytes x.1 = s then (x.1, true) else (item0, false)
def ofClaim (c : Claim) : Item := { item0 with kind := 1, claim := c }
def signClaim (k : Key) (c : Claim) : Claim := { c with sig := sign k (message (ofClaim c)) }
def serverOf (it : Item) : Int := if it.kind = 2 then it.ballot.server else it.decision.server
def signed (ps : List Int) (it : Item) : Bool :=
 if right it then (if it.kind = 2 ∨ it.kind = 3 then decide (serverOf it < ps.length) && signedBy (ps.getD (serverOf it).toNat 0) it else true) else false
def entryB (e : Entry) : By := if isTime e.time && right e.item then numI e.time ++ bytes e.item else []
theorem right_act {it : Item} (h0 : it.kind = 0) : right it = true ↔ Ac.right it.act = true ∧ it.claim = claim0 ∧ it.ballot = ballot0 ∧ it.decision = decision0 := by
 obtain ⟨k, a, c, b, d⟩ := it
 simp only at h0
 subst h0
 simp [right, rightField, rest, item0]
theorem right_claim {it : Item} (h0 : it.kind = 1) : right it = true ↔ rightClaim it.claim = true ∧ it.act = act0 ∧ it.ballot = ballot0 ∧ it.decision = decision0 := by
 obtain ⟨k, a, c, b, d⟩ := it
 simp only at h0
 subst h0
 simp [right, rightField, rest, item0]
theorem right_ballot {it : Item} (h0 : it.kind = 2) : right it = true ↔ rightBallot it.ballot = true ∧ it.act = act0 ∧ it.claim = claim0 ∧ it.decision = decision0 := by
 obtain ⟨k, a, c, b, d⟩ := it
 simp only at h0
 subst h0
 simp [right, rightField, rest, item0]
theorem right_decision {it : Item} (h0 : it.kind = 3) : right it = true ↔ rightDecision it.decision = true ∧ it.act = act0 ∧ it.claim = claim0 ∧ it.ballot = ballot0 := by
 obtain ⟨k, a, c, b, d⟩ := it
 simp only at h0
 subst h0
 simp [right, rightField, rest, item0]
theorem right_kind {it : Item} (h : right it = true) : it.kind = 0 ∨ it.kind = 1 ∨ it.kind = 2 ∨ it.kind = 3 := by
 unfold right rightField at h
 rw [Bool.and_eq_true] at h
 have h := h.1
 split at h
 ·omega
 split at h
 ·omega
 split at h
 ·omega
 split at h
 ·omega
 ·cases h
structure SmC (c : Claim) : Prop where
 actor : c.actor.length = 16
 base : 1 ≤ c.base ∧ c.base ≤ 1073741824
 prev : c.prev.length = 32
 gen : 0 ≤ c.gen ∧ c.gen ≤ 1073741824
 home : 0 ≤ c.home ∧ c.home ≤ 19
 pub : 1 ≤ c.pub ∧ c.pub ≤ 2305843009213693950
 time : 0 ≤ c.time ∧ c.time ≤ 1099511627776
 sig : sigR c.sig = true
theorem claim_sm {c : Claim} (h : rightClaim c = true) : SmC c := by
 simp only [rightClaim, isServer, isTime, Bool.and_eq_true, wi_iff] at h
 obtain ⟨⟨⟨⟨⟨⟨⟨h1, h2⟩, h3⟩, h4⟩, h5⟩, h6⟩, h7⟩, h8⟩ := h
 exact ⟨idR_len h1, h2, of_decide_eq_true h3, h4, h5, h6, h7, h8⟩
structure SmB (b : Ballot) : Prop where
 server : 0 ≤ b.server ∧ b.server ≤ 19
 actor : b.actor.length = 16
 gen : 0 ≤ b.gen ∧ b.gen ≤ 1073741824
 claim : b.claim.length = 32
 time : 0 ≤ b.time ∧ b.time ≤ 1099511627776
 sig : sigR b.sig = true
theorem ballot_sm {b : Ballot} (h : rightBallot b = true) : SmB b := by
 simp only [rightBallot, isServer, isTime, Bool.and_eq_true, wi_iff] at h
 obtain ⟨⟨⟨⟨⟨h1, h2⟩, h3⟩, h4⟩, h5⟩, h6⟩ := h
 exact ⟨h1, idR_len h2, h3, of_decide_eq_true h4, h5, h6⟩
structure SmD (d : Decision) : Prop where
 server : 0 ≤ d.server ∧ d.server ≤ 19
 number : 0 ≤ d.number ∧ d.number ≤ 1073741824
 kind : 0 ≤ d.kind ∧ d.kind ≤ 9
 actor : d.actor.length ≤ 16
 object : d.object.length ≤ 32
 text : d.text.length ≤ 4096
 to : d.to.length ≤ 64 ∧ ∀ s ∈ d.to, s.length = 16
 n : 0 ≤ d.n ∧ d.n ≤ 64
 frm : 0 ≤ d.frm ∧ d.frm ≤ 1099511627776
 til : 0 ≤ d.til ∧ d.til ≤ 1099511627776
 sig : sigR d.sig = true
theorem plainD_iff {d : Decision} : plainD d = true ↔ d.to = [] ∧ d.n = 0 := by simp [plainD]
theorem decision_sm {d : Decision} (h : rightDecision d = true) : SmD d := by
 simp only [rightDecision, isServer, isTime, Bool.and_eq_true, wi_iff] at h
 obtain ⟨⟨⟨⟨⟨⟨h1, h2⟩, h3⟩, h4⟩, h5⟩, h6⟩, h7⟩ := h
 have key : (0 ≤ d.kind ∧ d.kind ≤ 9) ∧ d.actor.length ≤ 16 ∧ d.object.length ≤ 32 ∧ d.text.length ≤ 4096 ∧ (d.to.length ≤ 64 ∧ ∀ s ∈ d.to, s.length = 16) ∧ (0 ≤ d.n ∧ d.n ≤ 64) := by
  unfold rightTerms at h6
  split at h6
  ·simp only [Bool.and_eq_true, decide_eq_true_eq, plainD_iff] at h6
   obtain ⟨⟨⟨a1, a2⟩, a3⟩, a4, a5⟩ := h6
   have := idR_len a1
   have := short_len a3
   exact ⟨by omega, by omega, by simp [a2], by omega, by simp [a4], by omega⟩
  split at h6
  ·simp only [Bool.and_eq_true, decide_eq_true_eq, plainD_iff] at h6
   obtain ⟨⟨⟨a1, a2⟩, a3⟩, a4, a5⟩ := h6
   have := short_len a3
   exact ⟨by omega, by simp [a1], dig_len a2, by omega, by simp [a4], by omega⟩
  split at h6
  ·simp only [Bool.and_eq_true, decide_eq_true_eq, wi_iff] at h6
   obtain ⟨⟨⟨⟨a1, a2⟩, a3⟩, a4⟩, a5⟩ := h6
   have := short_len a3
   have := idsR_len a4
   exact ⟨by omega, by simp [a1], by simp [a2], by omega, this, by omega⟩
  split at h6
  ·simp only [Bool.and_eq_true, decide_eq_true_eq, plainD_iff] at h6
   obtain ⟨⟨⟨a1, a2⟩, a3⟩, a4, a5⟩ := h6
   exact ⟨by omega, by simp [a1], by simp [a2], a3, by simp [a4], by omega⟩
  ·cases h6
 obtain ⟨k1, k2, k3, k4, k5, k6⟩ := key
 exact ⟨h1, h2, k1, k2, k3, k4, k5, k6, h3, h4, h7⟩
theorem bytes_right {it : Item} (h : right it = true) : bytes it = numI it.kind ++ bodyB it := by unfold bytes; rw [if_pos h]
theorem bytes_wrong {it : Item} (h : right it = false) : bytes it = [] := by unfold bytes; simp [h]
theorem bytes_ne {it : Item} (h : right it = true) : bytes it ≠ [] := by
 rw [bytes_right h]
 have hk := right_kind h
 intro e
 exact numI_ne (by omega) (List.append_eq_nil_iff.1 e).1
theorem entryB_ne {e : Entry} : (entryB e ≠ []) ↔ (isTime e.time = true ∧ right e.item = true) := by
 unfold entryB
 constructor
 ·intro h
  split at h
  ·rename_i hc; simpa using hc
  ·exact absurd rfl h
 ·rintro ⟨h1, h2⟩
  rw [if_pos (by rw [h1, h2]; rfl)]
  intro e
  exact bytes_ne h2 (List.append_eq_nil_iff.1 e).2
end Go.Proofs.YtleljbiejeofgaaGreatDoor.It
end
section
namespace Go.Proofs.YtleljbiejeofgaaGreatDoor.Mk
open Go Sm
abbrev By := List UInt8
def sp (n : Nat) : Nat := 2 ^ Nat.log2 (n - 1)
theorem sp_of {n j : Nat} (h1 : 2 ^ j < n) (h2 : n ≤ 2 ^ (j + 1)) : sp n = 2 ^ j := by
 unfold sp
 congr 1
 exact (Nat.log2_eq_iff (by omega)).2 ⟨by omega, by omega⟩
theorem sp_lt {n : Nat} (h : 2 ≤ n) : sp n < n := by
 have := (Nat.log2_eq_iff (n := n - 1) (k := Nat.log2 (n - 1)) (by omega)).1 rfl
 unfold sp; omega
theorem sp_pos (n : Nat) : 0 < sp n := Nat.pow_pos (by omega)
theorem sp_half {n : Nat} (h : 2 ≤ n) : n ≤ 2 * sp n := by
 have := (Nat.log2_eq_iff (n := n - 1) (k := Nat.log2 (n - 1)) (by omega)).1 rfl
 unfold sp; rw [Nat.pow_succ] at this; omega
def pre (l r : By) : By := 1 :: (l ++ r)
def node (l r : By) : By := sha (pre l r)
def leaf (s : By) : By := sha (0 :: s)
def rootF : Nat → List By → By
 | 0, l => l.headD []
 | f + 1, l => if l.length ≤ 1 then l.headD [] else node (rootF f (l.take (sp l.length))) (rootF f (l.drop (sp l.length)))
def rt (l : List By) : By := rootF l.length l
def root (l : List By) : By := if l = [] then sha [] else rt l
theorem rootF_fuel : ∀ (f f' : Nat) (l : List By), l.length ≤ f + 1 → l.length ≤ f' + 1 → rootF f l = rootF f' l
 | 0, 0, l, h, h' => rfl
 | 0, f' + 1, l, h, h' => by simp only [rootF]; rw [if_pos (by omega)]
 | f + 1, 0, l, h, h' => by simp only [rootF]; rw [if_pos (by omega)]
 | f + 1, f' + 1, l, h, h' => by
  simp only [rootF]
  by_cases h1 : l.length ≤ 1
  ·rw [if_pos h1, if_pos h1]
  ·rw [if_neg h1, if_neg h1]
   have := sp_lt (n := l.length) (by omega)
   have := sp_pos l.length
   rw [rootF_fuel f f' (l.take _) (by simp; omega) (by simp; omega), rootF_fuel f f' (l.drop _) (by simp; omega) (by simp; omega)]
theorem rt_one {l : List By} (h : l.length ≤ 1) : rt l = l.headD [] := by
 unfold rt
 cases hl : l.length with
 | zero => rfl
 | succ n => simp only [rootF]; rw [if_pos h]
theorem rt_two {l : List By} (h : 2 ≤ l.length) : rt l = node (rt (l.take (sp l.length))) (rt (l.drop (sp l.length))) := by
 have := sp_lt h
 have := sp_pos l.length
 unfold rt
 rw [rootF_fuel l.length (l.length - 1 + 1) l (by omega) (by omega)]
 simp only [rootF]
 rw [if_neg (by omega), rootF_fuel (l.length - 1) (l.take (sp l.length)).length _ (by simp; omega) (by omega), rootF_fuel (l.length - 1) (l.drop (sp l.length)).length _ (by simp; omega) (by omega)]
def pathF : Nat → List By → Nat → List By
 | 0, _, _ => []
 | f + 1, l, i => if l.length ≤ 1 then [] else
  if i < sp l.length then pathF f (l.take (sp l.length)) i ++ [rt (l.drop (sp l.length))] else pathF f (l.drop (sp l.length)) (i - sp l.length) ++ [rt (l.take (sp l.length))]
def path (l : List By) (i : Nat) : List By := pathF l.length l i
theorem path_one {l : List By} (h : l.length ≤ 1) (i : Nat) : path l i = [] := by
 unfold path
 cases hl : l.length with
 | zero => rfl
 | succ n => simp only [pathF]; rw [if_pos h]
def linkF : Nat → List By → Nat → Bool → List By
 | 0, l, m, w => if m = l.length then (if w then [] else [rt l]) else []
 | f + 1, l, m, w => if m = l.length then (if w then [] else [rt l]) else
  if m ≤ sp l.length then linkF f (l.take (sp l.length)) m w ++ [rt (l.drop (sp l.length))] else linkF f (l.drop (sp l.length)) (m - sp l.length) false ++ [rt (l.take (sp l.length))]
def link (l : List By) (m : Nat) (w : Bool) : List By := linkF l.length l m w
theorem linkF_fuel : ∀ (f f' : Nat) (l : List By) (m : Nat) (w : Bool), 0 < m → m ≤ l.length → l.length ≤ f + 1 → l.length ≤ f' + 1 → linkF f l m w = linkF f' l m w
 | 0, 0, l, m, w, _, _, h, h' => rfl
 | 0, f' + 1, l, m, w, h0, hm, h, h' => by
  have e : m = l.length := by omega
  simp only [linkF, if_pos e]
 | f + 1, 0, l, m, w, h0, hm, h, h' => by
  have e : m = l.length := by omega
  simp only [linkF, if_pos e]
 | f + 1, f' + 1, l, m, w, h0, hm, h, h' => by
  simp only [linkF]
  by_cases h1 : m = l.length
  ·rw [if_pos h1, if_pos h1]
  ·rw [if_neg h1, if_neg h1]
   have := sp_lt (n := l.length) (by omega)
   have := sp_pos l.length
   by_cases h2 : m ≤ sp l.length
   ·rw [if_pos h2, if_pos h2, linkF_fuel f f' (l.take _) _ _ h0 (by simp; omega) (by simp; omega) (by simp; omega)]
   ·rw [if_neg h2, if_neg h2, linkF_fuel f f' (l.drop _) _ _ (by omega) (by simp; omega) (by simp; omega) (by simp; omega)]
theorem link_all (l : List By) (w : Bool) : link l l.length w = if w then [] else [rt l] := by
 unfold link
 cases hl : l.length with
 | zero => simp only [linkF]; rw [if_pos hl.symm]
 | succ n => simp only [linkF]; rw [if_pos hl.symm]
theorem link_two {l : List By} {m : Nat} (h0 : 0 < m) (hm : m < l.length) (w : Bool) : link l m w =
  if m ≤ sp l.length then link (l.take (sp l.length)) m w ++ [rt (l.drop (sp l.length))] else link (l.drop (sp l.length)) (m - sp l.length) false ++ [rt (l.take (sp l.length))] := by
 have := sp_lt (n := l.length) (by omega)
 have := sp_pos l.length
 unfold link
 rw [linkF_fuel l.length (l.length - 1 + 1) l _ _ h0 (by omega) (by omega) (by omega)]
 simp only [linkF]
 rw [if_neg (by omega)]
 by_cases h2 : m ≤ sp l.length
 ·rw [if_pos h2, if_pos h2, linkF_fuel (l.length - 1) (l.take (sp l.length)).length _ _ _ h0 (by simp; omega) (by simp; omega) (by omega)]
 ·rw [if_neg h2, if_neg h2, linkF_fuel (l.length - 1) (l.drop (sp l.length)).length _ _ _ (by omega) (by simp; omega) (by simp; omega) (by omega)]
def roots : List By → Nat → Nat → By → Bool → By × By × Bool
 | [], m, n, old, mark => if m = n ∧ mark = true then (old, old, true) else ([], [], false)
 | q :: r, m, n, old, mark => if m = n then (if mark then (old, old, false) else if r = [] then (q, q, true) else ([], [], false)) else
  if m ≤ sp n then ((roots r m (sp n) old mark).1, node (roots r m (sp n) old mark).2.1 q, (roots r m (sp n) old mark).2.2)
  else (node q (roots r (m - sp n) (n - sp n) old false).1, node q (roots r (m - sp n) (n - sp n) old false).2.1, (roots r (m - sp n) (n - sp n) old false).2.2)
end Go.Proofs.YtleljbiejeofgaaGreatDoor.Mk
end
section
namespace Go.Proofs.YtleljbiejeofgaaGreatDoor.Mk
open Go Sm
theorem sp_mid {n m : Nat} (h1 : sp n < m) (h2 : m ≤ n) : sp m = sp n := by
 have h0 := sp_pos n
 have := sp_half (n := n) (by omega)
 exact sp_of (j := Nat.log2 (n - 1)) h1 (by rw [Nat.pow_succ]; unfold sp at this; omega)
theorem roots_link : ∀ (k : Nat) (l : List By) (m : Nat) (old : By) (w : Bool), 0 < m → m ≤ l.length → l.length ≤ k → (w = true → old = rt (l.take m)) → roots (link l m w).reverse m l.length old w = (rt (l.take m), rt l, true) := by
 intro k
 induction k with
 | zero => intro l m old w h0 h1 h; omega
 | succ k ih =>
  intro l m old w h0 hm h hw
  by_cases h1 : m = l.length
  ·subst h1
   rw [link_all, List.take_length] at *
   cases w
   ·simp [roots]
   ·have := hw rfl
    subst this
    simp [roots]
  ·have h2 : 2 ≤ l.length := by omega
   have h3 := sp_lt h2
   have h4 := sp_pos l.length
   have ht : (l.take (sp l.length)).length = sp l.length := by simp; omega
   have hd : (l.drop (sp l.length)).length = l.length - sp l.length := List.length_drop
   rw [link_two h0 (by omega), rt_two h2]
   by_cases hs : m ≤ sp l.length
   ·rw [if_pos hs, List.reverse_append, List.reverse_singleton, List.singleton_append]
    have htt : (l.take (sp l.length)).take m = l.take m := by rw [List.take_take, Nat.min_eq_left hs]
    have := ih (l.take (sp l.length)) m old w h0 (by omega) (by omega) (by rw [htt]; exact hw)
    rw [ht, htt] at this
    simp only [roots]
    rw [if_neg h1, if_pos hs, this]
   ·rw [if_neg hs, List.reverse_append, List.reverse_singleton, List.singleton_append]
    have := ih (l.drop (sp l.length)) (m - sp l.length) old false (by omega) (by omega) (by omega) (fun h => by cases h)
    rw [hd] at this
    simp only [roots]
    rw [if_neg h1, if_neg hs, this]
    have hml : (l.take m).length = m := by simp; omega
    have e : sp m = sp l.length := sp_mid (by omega) hm
    rw [rt_two (l := l.take m) (by omega), hml, e, List.take_take, Nat.min_eq_left (by omega), List.drop_take]
abbrev Dig (l : List By) : Prop := ∀ x ∈ l, x.length = 32
theorem sha_len' (l : By) : (sha l).length = 32 := by simp [sha, S8.list, be4]
theorem rt_dig {l : List By} (h0 : 0 < l.length) (h : Dig l) : (rt l).length = 32 := by
 by_cases h2 : 2 ≤ l.length
 ·rw [rt_two h2]; exact sha_len' _
 ·obtain ⟨a, rfl⟩ := List.length_eq_one_iff.1 (by omega : l.length = 1)
  rw [rt_one (by simp)]; exact h a (by simp)
theorem Dig.take {l : List By} (h : Dig l) (k : Nat) : Dig (l.take k) := fun x hx => h x (List.mem_of_mem_take hx)
theorem Dig.drop {l : List By} (h : Dig l) (k : Nat) : Dig (l.drop k) := fun x hx => h x (List.mem_of_mem_drop hx)
theorem Dig.snoc {l : List By} {x : By} (h : Dig l) (hx : x.length = 32) : Dig (l ++ [x]) := by
 intro y hy
 rcases List.mem_append.1 hy with hy | hy
 ·exact h y hy
 ·rw [List.mem_singleton.1 hy]; exact hx
theorem link_dig : ∀ (k : Nat) (l : List By) (m : Nat) (w : Bool), 0 < m → m ≤ l.length → l.length ≤ k → Dig l → Dig (link l m w) := by
 intro k
 induction k with
 | zero => intro l m w h0 hm h hd; omega
 | succ k ih =>
  intro l m w h0 hm h hd
  by_cases h1 : m = l.length
  ·subst h1
   rw [link_all]
   split
   ·intro x hx; simp at hx
   ·intro x hx; rw [List.mem_singleton.1 hx]; exact rt_dig h0 hd
  ·have h2 : 2 ≤ l.length := by omega
   have h3 := sp_lt h2
   have h4 := sp_pos l.length
   rw [link_two h0 (by omega)]
   split
   ·exact (ih _ m w h0 (by simp; omega) (by simp; omega) (hd.take _)).snoc (rt_dig (by simp; omega) (hd.drop _))
   ·exact (ih _ _ false (by omega) (by simp; omega) (by simp; omega) (hd.drop _)).snoc (rt_dig (by simp; omega) (hd.take _))
end Go.Proofs.YtleljbiejeofgaaGreatDoor.Mk
end
section
namespace Go.Proofs.YtleljbiejeofgaaGreatDoor.Sl
open Go Co Sg Ac It
structure Head where
 server : Int
 size : Int
 root : By
 time : Int
 sig : Sig
 deriving DecidableEq
def head0 : Head := ⟨0, 0, [], 0, sig0⟩
def rightH (h : Head) : Bool := wi h.server 0 19 && wi h.size 0 1073741824 && wi h.time 0 1099511627776 && dig h.root && sigR h.sig
abbrev wHead : By := [104, 101, 97, 100]
def coreH (h : Head) : By := text wHead ++ numI h.server ++ numI h.size ++ text h.root ++ numI h.time
def verifyH (p : Int) (h : Head) : Bool := rightH h && verify p (coreH h) h.sig
def headB (h : Head) : By := if rightH h then coreH h ++ numI h.sig.e ++ numI h.sig.s else []
theorem rightH_iff {h : Head} : rightH h = true ↔ (0 ≤ h.server ∧ h.server ≤ 19) ∧ (0 ≤ h.size ∧ h.size ≤ 1073741824) ∧ (0 ≤ h.time ∧ h.time ≤ 1099511627776) ∧ h.root.length = 32 ∧ sigR h.sig = true := by
 simp only [rightH, Bool.and_eq_true, wi_iff, dig, decide_eq_true_eq, and_assoc]
def leafE (e : It.Entry) : By := Mk.leaf (entryB e)
def rootE (l : List It.Entry) : By := Mk.root (l.map leafE)
theorem leafE_len (e : It.Entry) : (leafE e).length = 32 := Mk.sha_len' _
theorem leaves_dig (l : List It.Entry) : Mk.Dig (l.map leafE) := fun x hx => by
 obtain ⟨e, _, rfl⟩ := List.mem_map.1 hx
 exact leafE_len e
theorem root_len {l : List By} (h : Mk.Dig l) : (Mk.root l).length = 32 := by
 unfold Mk.root
 split
 ·exact Mk.sha_len' _
 ·rename_i h0
  exact Mk.rt_dig (List.length_pos_iff.2 h0) h
theorem rootE_len (l : List It.Entry) : (rootE l).length = 32 := root_len (leaves_dig l)
def mkHead (k : Key) (server : Int) (l : List It.Entry) (time : Int) : Head :=
 if k.right then
  let h : Head := ⟨server, l.length, rootE l, time, sig0⟩
  if rightH h then { h with sig := sign k (coreH h) } else head0
 else head0
theorem sig_sigR (k : Key) (m : By) : sigR (sign k m) = true := by
 obtain ⟨h1, h2, h3, h4⟩ := sign_range k m
 simp only [sigR, wi, Bool.and_eq_true, decide_eq_true_eq]
 omega
theorem right_sig {h : Head} (hr : rightH h = true) {s : Sig} (hs : sigR s = true) : rightH { h with sig := s } = true := by
 obtain ⟨h1, h2, h3, h4, _⟩ := rightH_iff.1 hr
 exact rightH_iff.2 ⟨h1, h2, h3, h4, hs⟩
theorem mkHead_right {k : Key} {server : Int} {l : List It.Entry} {time : Int} (hk : k.right = true) (hs : 0 ≤ server ∧ server ≤ 19) (hl : l.length ≤ 1073741824) (ht : 0 ≤ time ∧ time ≤ 1099511627776) :
  mkHead k server l time = ⟨server, l.length, rootE l, time, sign k (coreH ⟨server, l.length, rootE l, time, sig0⟩)⟩ ∧ rightH (mkHead k server l time) = true ∧ verifyH k.pub (mkHead k server l time) = true := by
 have h0 : rightH ⟨server, l.length, rootE l, time, sig0⟩ = true := rightH_iff.2 ⟨hs, by simp only; omega, ht, rootE_len l, rfl⟩
 have e : mkHead k server l time = ⟨server, l.length, rootE l, time, sign k (coreH ⟨server, l.length, rootE l, time, sig0⟩)⟩ := by
  unfold mkHead
  rw [if_pos hk]
  simp only
  rw [if_pos h0]
 rw [e]
 have h1 := right_sig h0 (sig_sigR k (coreH ⟨server, l.length, rootE l, time, sig0⟩))
 refine ⟨rfl, h1, ?_⟩
 unfold verifyH
 rw [show rightH ⟨server, l.length, rootE l, time, sign k (coreH ⟨server, l.length, rootE l, time, sig0⟩)⟩ = true from h1]
 exact verify_sign hk _
def times : List It.Entry → Bool
 | a :: b :: r => decide (a.time ≤ b.time) && times (b :: r)
 | _ => true
theorem times_iff : ∀ {l : List It.Entry}, times l = true ↔ ∀ j (h : j + 1 < l.length), l[j].time ≤ l[j + 1].time
 | [] => by simp [times]
 | [a] => by simp [times]
 | a :: b :: r => by
  rw [times, Bool.and_eq_true, decide_eq_true_eq, times_iff (l := b :: r)]
  constructor
  ·rintro ⟨h1, h2⟩ j h
   cases j with
   | zero => exact h1
   | succ j => exact h2 j (by simpa using h)
  ·intro h
   exact ⟨h 0 (by simp), fun j hj => h (j + 1) (by simpa using hj)⟩
theorem times_take {l : List It.Entry} (h : times l = true) (n : Nat) : times (l.take n) = true := by
 rw [times_iff] at h ⊢
 intro j hj
 rw [List.length_take] at hj
 rw [List.getElem_take, List.getElem_take]
 exact h j (by omega)
structure Mirror where
 server : Int
 entries : List It.Entry
 heads : List Head
 deriving DecidableEq
structure Batch where
 head : Head
 frm : Int
 entries : List It.Entry
 deriving DecidableEq
def mirror0 : Mirror := ⟨0, [], []⟩
def formed (b : Batch) : Bool := rightH b.head && decide (1 ≤ b.entries.length) && decide (b.entries.length ≤ 64) && decide (0 ≤ b.frm) && decide (b.frm = b.head.size - b.entries.length)
def sound (ps : List Int) (e : It.Entry) : Bool := decide (entryB e ≠ []) && signed ps e.item
def clash : List It.Entry → List It.Entry → Bool
 | a :: l, b :: m => decide (a ≠ b) || clash l m
 | _, _ => false
def logOf (m : Mirror) (b : Batch) : List It.Entry := m.entries.take b.frm.toNat ++ b.entries
def take (ps : List Int) (m : Mirror) (b : Batch) : Mirror × Int :=
 if m.server < 0 ∨ ps.length ≤ m.server ∨ formed b = false ∨ b.head.server ≠ m.server then (mirror0, 1)
 else if verifyH (ps.getD m.server.toNat 0) b.head = false then (mirror0, 3)
 else if m.entries.length < b.frm then (mirror0, 12)
 else if clash (m.entries.drop b.frm.toNat) b.entries = true then (mirror0, 5)
 else if rootE (logOf m b) ≠ b.head.root then (mirror0, 17)
 else if times (logOf m b) = false then (mirror0, 2)
 else if b.entries.all (sound ps) = false then (mirror0, 2)
 else if b.head.size ≤ m.entries.length then (m, 0)
 else (⟨m.server, logOf m b, m.heads ++ [b.head]⟩, 0)
def headsOk (p : Int) (m : Mirror) : Int → List Head → Bool
 | last, [] => decide (last = m.entries.length)
 | last, h :: hs => decide (h.server = m.server) && verifyH p h && decide (last < h.size) && decide (h.size ≤ m.entries.length) && decide (h.root = rootE (m.entries.take h.size.toNat)) && headsOk p m h.size hs
def rightM (ps : List Int) (m : Mirror) : Bool :=
 decide (0 ≤ m.server) && decide (m.server < ps.length) && times m.entries && m.entries.all (sound ps) && headsOk (ps.getD m.server.toNat 0) m 0 m.heads
theorem clash_iff : ∀ {l m : List It.Entry}, clash l m = false ↔ ∀ j (h1 : j < l.length) (h2 : j < m.length), l[j] = m[j]
 | [], m => by simp [clash]
 | a :: l, [] => by simp [clash]
 | a :: l, b :: m => by
  rw [clash, Bool.or_eq_false_iff, decide_eq_false_iff_not, Decidable.not_not, clash_iff (l := l) (m := m)]
  constructor
  ·rintro ⟨h1, h2⟩ j hj1 hj2
   cases j with
   | zero => exact h1
   | succ j => exact h2 j (by simpa using hj1) (by simpa using hj2)
  ·intro h
   exact ⟨h 0 (by simp) (by simp), fun j h1 h2 => h (j + 1) (by simpa using h1) (by simpa using h2)⟩
structure Honest (ps : List Int) (l : List It.Entry) : Prop where
 times : times l = true
 sound : l.all (sound ps) = true
theorem Honest.take {ps : List Int} {l : List It.Entry} (h : Honest ps l) (n : Nat) : Honest ps (l.take n) :=
 ⟨times_take h.times n, List.all_eq_true.2 fun x hx => List.all_eq_true.1 h.sound x (List.mem_of_mem_take hx)⟩
theorem sound_iff {ps : List Int} {e : It.Entry} : sound ps e = true ↔ isTime e.time = true ∧ right e.item = true ∧ signed ps e.item = true := by
 unfold sound
 rw [Bool.and_eq_true, decide_eq_true_eq, entryB_ne, and_assoc]
theorem Honest.time {ps : List Int} {l : List It.Entry} (h : Honest ps l) {j : Nat} (hj : j < l.length) : 0 ≤ l[j].time ∧ l[j].time ≤ 1099511627776 :=
 wi_iff.1 (sound_iff.1 (List.all_eq_true.1 h.sound _ (List.getElem_mem hj))).1
def lastTime (l : List It.Entry) (t : Nat) : Int := (l.getD (t - 1) entry0).time
structure Good (ps : List Int) (server : Int) (k : Key) (l : List It.Entry) : Prop where
 s0 : 0 ≤ server
 s1 : server < ps.length
 s2 : ps.length ≤ 20
 key : ps.getD server.toNat 0 = k.pub
 right : k.right = true
 honest : Honest ps l
 len : l.length ≤ 80
def headTo (k : Key) (server : Int) (l : List It.Entry) (t : Nat) : Head := mkHead k server (l.take t) (lastTime l t)
theorem headTo_ok {ps : List Int} {server : Int} {k : Key} {l : List It.Entry} (g : Good ps server k l) {t : Nat} (h1 : 1 ≤ t) (h2 : t ≤ l.length) :
  (headTo k server l t).server = server ∧ (headTo k server l t).size = t ∧ (headTo k server l t).root = rootE (l.take t) ∧ rightH (headTo k server l t) = true ∧ verifyH k.pub (headTo k server l t) = true := by
 have hl := g.len
 have s0 := g.s0
 have s1 := g.s1
 have s2 := g.s2
 have ht : 0 ≤ lastTime l t ∧ lastTime l t ≤ 1099511627776 := by
  unfold lastTime
  rw [List.getD_eq_getElem?_getD, List.getElem?_eq_getElem (show t - 1 < l.length by omega)]
  exact g.honest.time (by omega)
 obtain ⟨e, h3, h4⟩ := mkHead_right (k := k) (server := server) (l := l.take t) (time := lastTime l t) g.right ⟨s0, by omega⟩ (by rw [List.length_take]; omega) ht
 have e' : headTo k server l t = _ := e
 refine ⟨by rw [e'], ?_, by rw [e'], h3, h4⟩
 rw [e']
 show ((l.take t).length : Int) = t
 rw [List.length_take, Nat.min_eq_left h2]
theorem take_good {ps : List Int} {server : Int} {k : Key} {l : List It.Entry} (g : Good ps server k l) (m : Mirror) (hm : m.server = server) {frm t : Nat} (h1 : frm < t) (h2 : t ≤ l.length) (h3 : t - frm ≤ 64) :
  take ps m ⟨headTo k server l t, frm, (l.take t).drop frm⟩ =
   if m.entries.length < frm then (mirror0, 12)
   else if clash (m.entries.drop frm) ((l.take t).drop frm) = true then (mirror0, 5)
   else if rootE (m.entries.take frm ++ (l.take t).drop frm) ≠ rootE (l.take t) then (mirror0, 17)
   else if times (m.entries.take frm ++ (l.take t).drop frm) = false then (mirror0, 2)
   else if t ≤ m.entries.length then (m, 0)
   else (⟨server, m.entries.take frm ++ (l.take t).drop frm, m.heads ++ [headTo k server l t]⟩, 0) := by
 obtain ⟨e1, e2, e3, e4, e5⟩ := headTo_ok g (t := t) (by omega) h2
 have s0 := g.s0
 have s1 := g.s1
 have hlen : ((l.take t).drop frm).length = t - frm := by rw [List.length_drop, List.length_take]; omega
 have hf : formed ⟨headTo k server l t, frm, (l.take t).drop frm⟩ = true := by
  unfold formed
  simp only [e4, e2, hlen, Bool.true_and, Bool.and_eq_true, decide_eq_true_eq]
  omega
 have hall : ((l.take t).drop frm).all (sound ps) = true := List.all_eq_true.2 fun x hx => List.all_eq_true.1 g.honest.sound x (List.mem_of_mem_take (List.mem_of_mem_drop hx))
 unfold take logOf
 simp only [hf, hall, e1, e2, e3, hm, g.key, e5, Int.toNat_natCast, Int.ofNat_lt, Int.ofNat_le]
 rw [if_neg (by simp; omega), if_neg (by simp)]
 simp only [Bool.true_eq_false, if_false]
theorem pre_split (l : List It.Entry) {n frm t : Nat} (h : frm ≤ n) (hn : n ≤ l.length) (ht : frm ≤ t) : (l.take n).take frm ++ (l.take t).drop frm = l.take t := by
 rw [List.take_take, Nat.min_eq_left h]
 have h1 : l.take frm = (l.take t).take frm := by rw [List.take_take, Nat.min_eq_left ht]
 rw [h1, List.take_append_drop]
theorem no_clash (l : List It.Entry) (n frm t : Nat) : clash ((l.take n).drop frm) ((l.take t).drop frm) = false := by
 rw [clash_iff]
 intro j h1 h2
 simp only [List.getElem_drop, List.getElem_take]
theorem headsOk_snoc {p : Int} {l : List It.Entry} {m m' : Mirror} {n t : Nat} {h : Head} (hs : m'.server = m.server) (he : m.entries = l.take n) (he' : m'.entries = l.take t) (hnt : n < t) (ht : t ≤ l.length)
  (h1 : h.server = m.server) (h2 : verifyH p h = true) (h3 : h.size = t) (h4 : h.root = rootE (l.take t)) :
  ∀ (hds : List Head) (last : Int), 0 ≤ last → headsOk p m last hds = true → headsOk p m' last (hds ++ [h]) = true
 | [], last, h0, hk => by
  simp only [headsOk, decide_eq_true_eq, he, List.length_take] at hk
  simp only [List.nil_append, headsOk, hs, h1, h2, h3, he', List.length_take, List.take_take, Int.toNat_natCast, Nat.min_self, h4, decide_true, Bool.true_and, Bool.and_true, Bool.and_eq_true, decide_eq_true_eq]
  omega
 | x :: hds, last, h0, hk => by
  simp only [headsOk, Bool.and_eq_true, decide_eq_true_eq] at hk
  obtain ⟨⟨⟨⟨⟨k1, k2⟩, k3⟩, k4⟩, k5⟩, k6⟩ := hk
  have k4' := k4
  rw [he, List.length_take] at k4'
  have hr := headsOk_snoc hs he he' hnt ht h1 h2 h3 h4 hds x.size (by omega) k6
  have hrt : x.root = rootE (m'.entries.take x.size.toNat) := by
   rw [k5, he, he', List.take_take, List.take_take, Nat.min_eq_left (by omega), Nat.min_eq_left (by omega)]
  simp only [List.cons_append, headsOk, Bool.and_eq_true, decide_eq_true_eq]
  refine ⟨⟨⟨⟨⟨k1.trans hs.symm, k2⟩, k3⟩, ?_⟩, hrt⟩, hr⟩
  rw [he', List.length_take]
  omega
structure Mir (ps : List Int) (server : Int) (l : List It.Entry) (m : Mirror) (n : Nat) : Prop where
 server : m.server = server
 le : n ≤ l.length
 entries : m.entries = l.take n
 right : rightM ps m = true
theorem mir_new {ps : List Int} {server : Int} {k : Key} {l : List It.Entry} (g : Good ps server k l) : Mir ps server l ⟨server, [], []⟩ 0 := by
 refine ⟨rfl, Nat.zero_le _, by simp, ?_⟩
 have s0 := g.s0
 have s1 := g.s1
 simp only [rightM, times, headsOk, List.all_nil, Bool.and_true, Bool.and_eq_true, decide_eq_true_eq]
 exact ⟨⟨s0, s1⟩, rfl⟩
theorem mir_next {ps : List Int} {server : Int} {k : Key} {l : List It.Entry} (g : Good ps server k l) {m : Mirror} {n : Nat} (h : Mir ps server l m n) {t : Nat} (hn : n < t) (h2 : t ≤ l.length) : Mir ps server l ⟨server, l.take t, m.heads ++ [headTo k server l t]⟩ t := by
 obtain ⟨e1, e2, e3, e4, e5⟩ := headTo_ok g (t := t) (by omega) h2
 refine ⟨rfl, h2, rfl, ?_⟩
 have hr := h.right
 simp only [rightM, Bool.and_eq_true, decide_eq_true_eq] at hr
 obtain ⟨⟨⟨⟨r1, r2⟩, r3⟩, r4⟩, r5⟩ := hr
 rw [h.server] at r1 r2 r5
 simp only [rightM, Bool.and_eq_true, decide_eq_true_eq]
 refine ⟨⟨⟨⟨r1, r2⟩, times_take g.honest.times t⟩, List.all_eq_true.2 fun x hx => List.all_eq_true.1 g.honest.sound x (List.mem_of_mem_take hx)⟩, ?_⟩
 refine headsOk_snoc (m := m) (l := l) (n := n) (t := t) h.server.symm h.entries rfl hn h2 (by rw [e1, h.server]) ?_ e2 e3 m.heads 0 (by omega) r5
 rw [g.key]
 exact e5
end Go.Proofs.YtleljbiejeofgaaGreatDoor.Sl
end
