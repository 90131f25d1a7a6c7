import Derived.Test.YtiidnoejnphocaaGreatDoorKs5
set_option linter.unusedSectionVars false
set_option linter.unusedVariables false
set_option linter.unusedSimpArgs false
namespace Go.Proofs.YtiidnoejnphocaaGreatDoor
section
namespace Sg
open Go Co
def EY : Nat → Nat → Nat → Nat → Nat
 | 0, r, _, _ => r
 | f + 1, r, p, e => EY f (if e % 2 = 1 then r * p % 2305843009213693951 else r) (p * p % 2305843009213693951) (e / 2)
theorem KM (f r p e : Nat) : EY (f + 1) r p e = EY f (if e % 2 = 1 then r * p % 2305843009213693951 else r) (p * p % 2305843009213693951) (e / 2) := rfl
theorem Oy : ∀ (f r p : Nat), EY f r p 0 = r
 | 0, _, _ => rfl
 | f + 1, r, p => by rw [KM, if_neg (by simp), Nat.zero_div, Oy f]
theorem RT : ∀ (f r p e : Nat), r < 2305843009213693951 → EY f r p e < 2305843009213693951
 | 0, _, _, _, h => h
 | f + 1, r, p, e, h => by
  rw [KM];refine RT f _ _ _ ?_
  split
  ·exact Nat.mod_lt _ (by decide)
  ·exact h
theorem RU : ∀ (f r p e : Nat), r < 2305843009213693951 → EY f r p e = r * p ^ (e % 2 ^ f) % 2305843009213693951
 | 0, r, p, e, h => by
  show r = _
  rw [Nat.pow_zero, Nat.mod_one, Nat.pow_zero, Nat.mul_one, Nat.mod_eq_of_lt h]
 | f + 1, r, p, e, h => by
  have hlt : (if e % 2 = 1 then r * p % 2305843009213693951 else r) < 2305843009213693951 := by
   split
   ·exact Nat.mod_lt _ (by decide)
   ·exact h
  rw [KM, RU f _ _ _ hlt];have he : e % 2 ^ (f + 1) = e % 2 + 2 * (e / 2 % 2 ^ f) := by rw [Nat.pow_succ, Nat.mul_comm (2 ^ f) 2, Nat.mod_mul]
  rw [he, Nat.pow_add, Nat.pow_mul];generalize e / 2 % 2 ^ f = k;have h1 : (p * p % 2305843009213693951) ^ k % 2305843009213693951 = (p ^ 2) ^ k % 2305843009213693951 := by rw [← Nat.pow_mod, Nat.pow_two]
  split
  ·rename_i h2
   rw [h2, Nat.pow_one, ← Nat.mul_assoc];rw [Nat.mul_mod, h1, Nat.mod_mod, ← Nat.mul_mod]
  ·rename_i h2
   rw [show e % 2 = 0 from by omega, Nat.pow_zero, Nat.one_mul, Nat.mul_mod, h1, ← Nat.mul_mod]
def AY (b e : Nat) : Nat := EY 64 1 (b % 2305843009213693951) e
theorem Zzr (b e : Nat) : AY b e < 2305843009213693951 := RT _ _ _ _ (by decide)
theorem Jm (b : Nat) {e : Nat} (h : e < 2 ^ 64) : AY b e = b ^ e % 2305843009213693951 := by
 unfold AY;rw [RU _ _ _ _ (by decide), Nat.mod_eq_of_lt h, Nat.one_mul, ← Nat.pow_mod]
theorem ZV : AY 37 2305843009213693950 = 1 := by decide +kernel
theorem RS : 37 ^ 2305843009213693950 % 2305843009213693951 = 1 := by rw [← Jm 37 (show 2305843009213693950 < 2 ^ 64 by decide)]; exact ZV
theorem RR (k : Nat) : 37 ^ (2305843009213693950 * k) % 2305843009213693951 = 1 := by
 rw [Nat.pow_mul, Nat.pow_mod, RS, Nat.one_pow]
theorem ZW (k : Nat) : 37 ^ (k % 2305843009213693950) % 2305843009213693951 = 37 ^ k % 2305843009213693951 := by
 have h : 37 ^ k % 2305843009213693951 = 37 ^ (2305843009213693950 * (k / 2305843009213693950)) * 37 ^ (k % 2305843009213693950) % 2305843009213693951 := by rw [← Nat.pow_add, Nat.div_add_mod]
 rw [h, Nat.mul_mod, RR, Nat.one_mul, Nat.mod_mod]
def FY (a e : Int) : Nat := AY (a % (2305843009213693951 : Int)).toNat (if e < 0 then (e % (2305843009213693950 : Int)).toNat else e.toNat)
def Il (a b : Int) : Nat := (a % 2305843009213693951).toNat * (b % 2305843009213693951).toNat % 2305843009213693951
def Ik (a b : Int) : Nat := (a % 2305843009213693950).toNat * (b % 2305843009213693950).toNat % 2305843009213693950
theorem Jo {x y : Nat} (hx : x < 2305843009213693951) (hy : y < 2305843009213693951) : Il x y = x * y % 2305843009213693951 := by
 unfold Il;rw [show ((x : Int) % 2305843009213693951).toNat = x by omega, show ((y : Int) % 2305843009213693951).toNat = y by omega]
def hash (s : By) : Nat := Sm.num (Sm.sha s)
theorem Pd (s : By) : hash s < 2305843009213693952 := by
 have := Sm.nat8_lt (Sm.sha s) 8;unfold hash Sm.num;omega
def GR (h : Nat) : Nat := 1 + h % (2305843009213693950 - 1)
theorem Mv (h : Nat) : 1 ≤ GR h ∧ GR h < 2305843009213693950 := by
 unfold GR;have := Nat.mod_lt h (show 2305843009213693950 - 1 > 0 by decide)
 omega
abbrev Fj : By := [115, 105, 103, 110]
abbrev wNonce : By := [110, 111, 110, 99, 101]
abbrev HV : By := [107, 101, 121]
def Dt (r p : Int) (m : By) : Nat := hash (text Fj ++ Ag r ++ Ag p ++ text m) % 2305843009213693950
theorem PR (r p : Int) (m : By) : Dt r p m < 2305843009213693950 := Nat.mod_lt _ (by decide)
structure Key where
 secret : Int
 pub : Int
 deriving DecidableEq
structure Sig where
 e : Int
 s : Int
 deriving DecidableEq
def keyOf (s : Int) : Key := if s < 1 ∨ 2305843009213693949 < s then ⟨0, 0⟩ else ⟨s, AY 37 s.toNat⟩
def Key.right (k : Key) : Bool := decide (1 ≤ k.secret) && decide (k = keyOf k.secret)
def Jt (seed : By) : Key := keyOf (GR (hash (text HV ++ text seed)))
def nonce (k : Key) (m : By) : Nat := GR (hash (text wNonce ++ Ag k.secret ++ text m))
def CX (k : Key) (m : By) : Sig :=
 if k.right then ⟨Dt (AY 37 (nonce k m)) k.pub m, ((nonce k m + Dt (AY 37 (nonce k m)) k.pub m * k.secret.toNat) % 2305843009213693950 : Nat)⟩ else ⟨0, 0⟩
def FW (n : Int) : Bool := decide (0 ≤ n) && decide (n < 2305843009213693950)
def Ev (p : Int) (s : Sig) : Nat := AY 37 s.s.toNat * AY p.toNat (2305843009213693950 - s.e).toNat % 2305843009213693951
def Gb (p : Int) (m : By) (s : Sig) : Bool :=
 decide (1 ≤ p) && decide (p < 2305843009213693951) && FW s.e && FW s.s && decide (s.e = Dt (Ev p s) p m)
theorem Key.right_iff {k : Key} : k.right = true ↔ 1 ≤ k.secret ∧ k.secret ≤ 2305843009213693949 ∧ k.pub = AY 37 k.secret.toNat := by
 unfold Key.right keyOf;obtain ⟨s, p⟩ := k;simp only [Bool.and_eq_true, decide_eq_true_eq];constructor
 ·rintro ⟨h1, h2⟩
  split at h2
  ·injection h2; omega
  ·injection h2 with h3 h4
   exact ⟨h1, by omega, h4⟩
 ·rintro ⟨h1, h2, h3⟩
  rw [if_neg (by omega)]
  exact ⟨h1, by rw [h3]⟩
theorem Zbj {s : Int} (h1 : 1 ≤ s) (h2 : s ≤ 2305843009213693949) : (keyOf s).right = true := by
 unfold keyOf;rw [if_neg (by omega), Key.right_iff]
 exact ⟨h1, h2, rfl⟩
theorem O4 (seed : By) : (Jt seed).right = true := by
 have := Mv (hash (text HV ++ text seed));exact Zbj (by omega) (by omega)
theorem pow_pos {x : Nat} (h : x ≤ 2305843009213693950) : 37 ^ x % 2305843009213693951 ≠ 0 := by
 intro h0;have h1 : 37 ^ 2305843009213693950 % 2305843009213693951 = 37 ^ x * 37 ^ (2305843009213693950 - x) % 2305843009213693951 := by rw [← Nat.pow_add]; congr 2; omega
 rw [Nat.mul_mod, h0, Nat.zero_mul, Nat.zero_mod, RS] at h1;exact absurd h1 (by decide)
theorem RQ {k : Key} (h : k.right = true) : 1 ≤ k.pub ∧ k.pub < 2305843009213693951 := by
 obtain ⟨h1, h2, h3⟩ := Key.right_iff.1 h;have := Zzr 37 k.secret.toNat;have h4 := Jm 37 (e := k.secret.toNat) (by omega)
 have h5 := pow_pos (x := k.secret.toNat) (by omega)
 rw [← h4] at h5;omega
theorem ZdA (u e x : Nat) (he : e ≤ 2305843009213693950) : 37 ^ ((u + e * x) % 2305843009213693950) % 2305843009213693951 * ((37 ^ x % 2305843009213693951) ^ (2305843009213693950 - e) % 2305843009213693951) % 2305843009213693951 = 37 ^ u % 2305843009213693951 := by
 rw [ZW, ← Nat.pow_mod, ← Nat.pow_mul, ← Nat.mul_mod, ← Nat.pow_add]
 have : u + e * x + x * (2305843009213693950 - e) = u + 2305843009213693950 * x := by
  rw [Nat.mul_comm e x, Nat.add_assoc, ← Nat.mul_add, Nat.add_sub_cancel' he, Nat.mul_comm]
 rw [this, Nat.pow_add, Nat.mul_mod, RR, Nat.mul_one, Nat.mod_mod]
theorem QK {k : Key} (h : k.right = true) (m : By) : Gb k.pub m (CX k m) = true := by
 obtain ⟨p1, p2⟩ := RQ h;obtain ⟨h1, h2, h3⟩ := Key.right_iff.1 h;have hu := Mv (hash (text wNonce ++ Ag k.secret ++ text m));change 1 ≤ nonce k m ∧ nonce k m < 2305843009213693950 at hu;unfold CX;rw [if_pos h];have he := PR (AY 37 (nonce k m)) k.pub m;have hs : (nonce k m + Dt (AY 37 (nonce k m)) k.pub m * k.secret.toNat) % 2305843009213693950 < 2305843009213693950 := Nat.mod_lt _ (by decide)
 have hc : Ev k.pub ⟨Dt (AY 37 (nonce k m)) k.pub m, ((nonce k m + Dt (AY 37 (nonce k m)) k.pub m * k.secret.toNat) % 2305843009213693950 : Nat)⟩ = AY 37 (nonce k m) := by
  generalize Dt (AY 37 (nonce k m)) k.pub m = e at *;unfold Ev;simp only [Int.toNat_natCast];rw [h3, Int.toNat_natCast, show (2305843009213693950 - (e : Int)).toNat = 2305843009213693950 - e from by omega]
  rw [Jm _ (show 2305843009213693950 - e < 2 ^ 64 by omega), Jm _ (show k.secret.toNat < 2 ^ 64 by omega), Jm _ (show (nonce k m + e * k.secret.toNat) % 2305843009213693950 < 2 ^ 64 by omega), Jm _ (show nonce k m < 2 ^ 64 by omega)]
  exact ZdA _ _ _ (by omega)
 unfold Gb;rw [hc];generalize Dt (AY 37 (nonce k m)) k.pub m = e at *;generalize (nonce k m + e * k.secret.toNat) % 2305843009213693950 = s at *;simp only [FW, Bool.and_eq_true, decide_eq_true_eq];refine ⟨⟨⟨⟨p1, p2⟩, ?_, ?_⟩, ?_, ?_⟩, trivial⟩ <;> omega
theorem Q9 (k : Key) (m : By) : 0 ≤ (CX k m).e ∧ (CX k m).e ≤ 2305843009213693949 ∧ 0 ≤ (CX k m).s ∧ (CX k m).s ≤ 2305843009213693949 := by
 unfold CX;split
 ·have he := PR (AY 37 (nonce k m)) k.pub m
  have hs : (nonce k m + Dt (AY 37 (nonce k m)) k.pub m * k.secret.toNat) % 2305843009213693950 < 2305843009213693950 := Nat.mod_lt _ (by decide)
  simp only
  omega
 ·simp
end Sg
end
section
namespace Ac
open Go Co Sg
def E7 (b : UInt8) : Bool := (decide (48 ≤ b.toNat) && decide (b.toNat ≤ 57)) || (decide (97 ≤ b.toNat) && decide (b.toNat ≤ 102))
def AD (s : By) : Bool := decide (s.length = 16) && s.all E7
def Cx (b : UInt8) : Bool := decide (97 ≤ b.toNat) && decide (b.toNat ≤ 122)
def C1 (b : UInt8) : Bool := Cx b || (decide (48 ≤ b.toNat) && decide (b.toNat ≤ 57)) || decide (b.toNat = 95)
def BQ : By → Bool
 | [] => false
 | c :: r => decide (r.length ≤ 23) && Cx c && r.all C1
def IK : List By → Bool
 | a :: b :: r => !(Op.bytesLess b a || b == a) && IK (b :: r)
 | _ => true
def BR (l : List By) : Bool := decide (l.length ≤ 64) && l.all AD && IK l
structure Box where
 nonce : By
 data : By
 tag : By
 deriving DecidableEq
structure Wrap where
 to : Int
 eph : Int
 box : Box
 deriving DecidableEq
structure Act where
 author : By
 seq : Int
 prev : By
 kind : Int
 time : Int
 object : By
 target : By
 scope : Int
 group : By
 to : List By
 text : By
 body : Box
 epoch : Int
 wraps : List Wrap
 n : Int
 m : Int
 sig : Sig
 deriving DecidableEq
def Cq : Box := ⟨[], [], []⟩
def Bl : Sig := ⟨0, 0⟩
def Au : Act := ⟨[], 0, [], 0, 0, [], [], 0, [], [], [], Cq, 0, [], 0, 0, Bl⟩
def wi (n lo hi : Int) : Bool := decide (lo ≤ n) && decide (n ≤ hi)
theorem Bb {n lo hi : Int} : wi n lo hi = true ↔ lo ≤ n ∧ n ≤ hi := by simp [wi]
def AP (s : By) : Bool := decide (s.length = 32)
def Cs (s : By) : Bool := decide (s.length ≤ 500)
def pub (n : Int) : Bool := wi n 1 2305843009213693950
def D0 (b : Box) : Bool := decide (b.nonce.length = 32) && decide (b.tag.length = 16) && Cs b.data
def Ca (w : Wrap) : Bool := pub w.to && pub w.eph && D0 w.box
def EB (a : Act) : Bool := a.wraps.all Ca && decide (a.wraps.length = a.to.length)
def Fo (scope : Int) (group : By) : Bool := if scope = 2 then BQ group else if scope = 1 ∨ scope = 3 then decide (group = []) else false
def DU (a : Act) : Bool :=
 BR a.to && (if a.scope = 0 then decide (a.group = []) && decide (a.epoch = 0) && Cs a.text && decide (a.body = Cq)
  else (decide (a.to = []) || decide (a.scope = 3)) && Fo a.scope a.group && wi a.epoch 0 1073741824 && decide (a.text = []) && D0 a.body)
def home (a : Act) : Bool := pub a.n && wi a.m 0 19
def grant (a : Act) : Bool := Fo a.scope a.group && wi a.epoch 0 1073741824 && BR a.to && EB a
def label (a : Act) : Bool := BQ a.text && ((AP a.object && decide (a.target = [])) || (AD a.target && decide (a.object = [])))
def setup (a : Act) : Bool := decide (0 < a.to.length) && BR a.to && EB a && wi a.n 1 a.to.length && pub a.m
def Bm (z : Bool) (f s : Int) : Int := if z then s else Go.bits .or .i64 s f
def H3 (a : Act) : Int :=
 Bm (decide (a.m = 0)) 1024 <| Bm (decide (a.n = 0)) 512 <| Bm (decide (a.wraps = [])) 256 <| Bm (decide (a.epoch = 0)) 128 <| Bm (decide (a.body = Cq)) 64 <|
 Bm (decide (a.text = [])) 32 <| Bm (decide (a.to = [])) 16 <| Bm (decide (a.group = [])) 8 <| Bm (decide (a.scope = 0)) 4 <| Bm (decide (a.target = [])) 2 <| Bm (decide (a.object = [])) 1 0
inductive Ru where
 | begin | post | reply | about | tie | reason | circle | grant | label | move | setup | judge | list
 deriving DecidableEq
def Ru.mask : Ru → Int
 | .begin => 1568
 | .post => 252
 | .reply => 253
 | .about => 1
 | .tie => 2
 | .reason => 33
 | .circle => 24
 | .grant => 412
 | .label => 35
 | .move => 1536
 | .setup => 1808
 | .judge => 513
 | .list => 546
def Ru.ok (a : Act) : Ru → Bool
 | .begin => BQ a.text && home a
 | .post => DU a
 | .reply => AP a.object && DU a
 | .about => AP a.object
 | .tie => AD a.target
 | .reason => AP a.object && Cs a.text
 | .circle => BQ a.group && BR a.to
 | .grant => Ac.grant a
 | .label => Ac.label a
 | .move => home a
 | .setup => Ac.setup a
 | .judge => AP a.object && wi a.n 0 1
 | .list => AD a.target && Cs a.text && wi a.n 0 1099511627776
def Ji : List (Int × Ru) := [(0, .begin), (1, .post), (2, .reply), (3, .reply), (14, .reply), (4, .about), (5, .about), (6, .about), (13, .about), (20, .about), (7, .tie), (8, .tie), (9, .tie), (10, .tie), (11, .tie), (12, .reason), (21, .reason), (15, .circle), (16, .grant), (17, .label), (18, .move), (19, .setup), (22, .judge), (23, .list)]
def EW (k : Int) : Option Ru := Ji.lookup k
def Ck (a : Act) : Bool := if a.seq = 0 then decide (a.kind = 0) && decide (a.prev = []) else wi a.seq 1 1073741824 && decide (a.kind ≠ 0) && AP a.prev
def AI (s : Sig) : Bool := wi s.e 0 2305843009213693949 && wi s.s 0 2305843009213693949
def right (a : Act) : Bool := AD a.author && Ck a && wi a.time 0 1099511627776 && AI a.sig &&
 (match EW a.kind with
 | none => false
 | some r => decide (Go.bits .andNot .i64 (H3 a) r.mask = 0) && r.ok a)
def EI (k : Int) : Bool := decide (k = 1) || decide (k = 2) || decide (k = 3)
def Zzd (b : Box) : By := text b.nonce ++ text b.data ++ text b.tag
def B2 (w : Wrap) : By := Ag w.to ++ Ag w.eph ++ Zzd w.box
abbrev FL : By := [97, 99, 116]
def Gz (a : Act) : By :=
 text FL ++ text a.author ++ Ag a.seq ++ text a.prev ++ Ag a.kind ++ Ag a.time ++ text a.object ++ text a.target ++ Ag a.scope ++ text a.group ++ list a.to ++ text a.text ++ Zzd a.body ++ Ag a.epoch ++ num a.wraps.length ++ (a.wraps.map B2).flatten ++ Ag a.n ++ Ag a.m
def AM (a : Act) : By := if right a then Gz a else []
def bytes (a : Act) : By := if right a then Gz a ++ Ag a.sig.e ++ Ag a.sig.s else []
def RK (x : R) : Box × R := (⟨x.text.1, x.text.2.text.1, x.text.2.text.2.text.1⟩, x.text.2.text.2.text.2)
def Bz (x : R) : Int × R := ((x.num.1 : Int), x.num.2)
def KL (x : R) : Wrap × R :=
 let a := Bz x
 let b := Bz a.2
 let c := RK b.2
 (⟨a.1, b.1, c.1⟩, c.2)
def Mw : Nat → R → Option (List Wrap) × R
 | 0, x => (some [], x)
 | n + 1, x => if (KL x).2.rest = [] then (none, (KL x).2) else ((Mw n (KL x).2).1.map ((KL x).1 :: ·), (Mw n (KL x).2).2)
def ZN (x : R) : List Wrap × R := ((Mw x.num.1 x.num.2).1.getD [], (Mw x.num.1 x.num.2).2)
def Ox (x : R) : Act × R :=
 let author := x.text
 let seq := Bz author.2
 let prev := seq.2.text
 let kind := Bz prev.2
 let time := Bz kind.2
 let object := time.2.text
 let target := object.2.text
 let scope := Bz target.2
 let group := scope.2.text
 let to := group.2.list
 let text := to.2.text
 let body := RK text.2
 let epoch := Bz body.2
 let wraps := ZN epoch.2
 let n := Bz wraps.2
 let m := Bz n.2
 let e := Bz m.2
 let s := Bz e.2
 (⟨author.1, seq.1, prev.1, kind.1, time.1, object.1, target.1, scope.1, group.1, to.1, text.1, body.1, epoch.1, wraps.1, n.1, m.1, ⟨e.1, s.1⟩⟩, s.2)
def _root_.Go.Proofs.YtiidnoejnphocaaGreatDoor.Co.R.done (x : R) : Bool := !x.bad && x.rest == []
def read (s : By) : Act × Bool :=
 let x : R := ⟨s, false⟩
 if x.text.1 = FL ∧ (Ox x.text.2).2.done = true ∧ bytes (Ox x.text.2).1 = s then ((Ox x.text.2).1, true) else (Au, false)
def BI (k : Key) (a : Act) : Act :=
 let b := { a with sig := Bl }
 if right b && k.right then { b with sig := CX k (AM b) } else Au
def C7 (p : Int) (a : Act) : Bool := right a && Gb p (AM a) a.sig
def same (a b : Act) : Bool := decide (a = b)
def XH (o t s g l x b e w n m : Bool) : Int :=
 Bm m 1024 <| Bm n 512 <| Bm w 256 <| Bm e 128 <| Bm b 64 <| Bm x 32 <| Bm l 16 <| Bm g 8 <| Bm s 4 <| Bm t 2 <| Bm o 1 0
def CJ (o t s g l x b e w n m : Bool) : Ru → Bool
 | .begin => o && t && s && g && l && b && e && w
 | .post => o && t && w && n && m
 | .reply => t && w && n && m
 | .about => t && s && g && l && x && b && e && w && n && m
 | .tie => o && s && g && l && x && b && e && w && n && m
 | .reason => t && s && g && l && b && e && w && n && m
 | .circle => o && t && s && x && b && e && w && n && m
 | .grant => o && t && x && b && n && m
 | .label => s && g && l && b && e && w && n && m
 | .move => o && t && s && g && l && x && b && e && w
 | .setup => o && t && s && g && x && b && e
 | .judge => t && s && g && l && x && b && e && w && m
 | .list => o && s && g && l && b && e && w && m
theorem SE (r : Ru) : ∀ o t s g l x b e w n m : Bool, decide (Go.bits .andNot .i64 (XH o t s g l x b e w n m) r.mask = 0) = CJ o t s g l x b e w n m r := by
 cases r <;> decide +kernel
def out (a : Act) (r : Ru) : Bool := CJ (decide (a.object = [])) (decide (a.target = [])) (decide (a.scope = 0)) (decide (a.group = [])) (decide (a.to = [])) (decide (a.text = [])) (decide (a.body = Cq)) (decide (a.epoch = 0)) (decide (a.wraps = [])) (decide (a.n = 0)) (decide (a.m = 0)) r
theorem right_iff {a : Act} : right a = true ↔ AD a.author = true ∧ Ck a = true ∧ wi a.time 0 1099511627776 = true ∧ AI a.sig = true ∧ ∃ r, EW a.kind = some r ∧ out a r = true ∧ r.ok a = true := by
 unfold right;cases h : EW a.kind with
 | none => simp
 | some r =>
  have e : decide (Go.bits .andNot .i64 (H3 a) r.mask = 0) = out a r := SE r _ _ _ _ _ _ _ _ _ _ _;simp only [e, Bool.and_eq_true, and_assoc, Option.some.injEq, exists_eq_left']
theorem Y1 {k : Int} {r : Ru} (h : EW k = some r) : (k, r) ∈ Ji := by
 unfold EW at h;generalize Ji = l at h ⊢;induction l with
 | nil => cases h
 | cons p l ih =>
  obtain ⟨j, s⟩ := p;rw [List.lookup_cons] at h;by_cases e : k = j
  ·subst e
   simp at h
   subst h;simp
  ·rw [show (k == j) = false by simpa using e] at h
   exact List.mem_cons_of_mem _ (ih h)
theorem Rl {k : Int} {r : Ru} (h : EW k = some r) : 0 ≤ k ∧ k ≤ 23 := by
 have := Y1 h;simp only [Ji, List.mem_cons, Prod.mk.injEq, List.not_mem_nil, or_false] at this;omega
theorem Y0 {k : Int} (h : k < 0 ∨ 23 < k) : EW k = none := by
 cases e : EW k with
 | none => rfl
 | some r => have := Rl e; omega
theorem G1 {s : By} (h : AD s = true) : s.length = 16 := by simp only [AD, Bool.and_eq_true, decide_eq_true_eq] at h; exact h.1
theorem MJ {s : By} (h : BQ s = true) : s.length ≤ 24 := by
 cases s with
 | nil => cases h
 | cons c r => simp only [BQ, Bool.and_eq_true, decide_eq_true_eq] at h; simp only [List.length_cons]; omega
theorem Li {l : List By} (h : BR l = true) : l.length ≤ 64 ∧ ∀ s ∈ l, s.length = 16 := by
 simp only [BR, Bool.and_eq_true, decide_eq_true_eq, List.all_eq_true] at h;exact ⟨h.1.1, fun s hs => G1 (h.1.2 s hs)⟩
theorem Rg {sc : Int} {g : By} (h : Fo sc g = true) : g.length ≤ 24 ∧ 1 ≤ sc ∧ sc ≤ 3 := by
 unfold Fo at h;split at h
 ·exact ⟨MJ h, by omega, by omega⟩
 ·split at h
  ·have h := of_decide_eq_true h; subst h; exact ⟨by simp, by omega, by omega⟩
  ·cases h
theorem Oh {b : Box} (h : D0 b = true) : b.nonce.length = 32 ∧ b.tag.length = 16 ∧ b.data.length ≤ 500 := by
 simp only [D0, Cs, Bool.and_eq_true, decide_eq_true_eq] at h;exact ⟨h.1.1, h.1.2, h.2⟩
structure Sm (a : Act) : Prop where
 author : a.author.length ≤ 16
 seq : 0 ≤ a.seq ∧ a.seq ≤ 1073741824
 prev : a.prev.length ≤ 32
 kind : 0 ≤ a.kind ∧ a.kind ≤ 23
 time : 0 ≤ a.time ∧ a.time ≤ 1099511627776
 object : a.object.length ≤ 32
 target : a.target.length ≤ 16
 scope : 0 ≤ a.scope ∧ a.scope ≤ 3
 group : a.group.length ≤ 24
 to : a.to.length ≤ 64 ∧ ∀ s ∈ a.to, s.length = 16
 text : a.text.length ≤ 500
 body : a.body.nonce.length ≤ 32 ∧ a.body.data.length ≤ 500 ∧ a.body.tag.length ≤ 16
 epoch : 0 ≤ a.epoch ∧ a.epoch ≤ 1073741824
 wraps : a.wraps.length ≤ 64 ∧ ∀ w ∈ a.wraps, Ca w = true
 n : 0 ≤ a.n ∧ a.n ≤ 2305843009213693950
 m : 0 ≤ a.m ∧ a.m ≤ 2305843009213693950
 sig : AI a.sig = true
theorem ID {s : By} (h : AP s = true) : s.length ≤ 32 := by have := of_decide_eq_true h; omega
theorem Ja {s : By} (h : Cs s = true) : s.length ≤ 500 := of_decide_eq_true h
theorem Qu {a : Act} (h : EB a = true) (ht : a.to.length ≤ 64) : a.wraps.length ≤ 64 ∧ ∀ w ∈ a.wraps, Ca w = true := by
 simp only [EB, Bool.and_eq_true, decide_eq_true_eq, List.all_eq_true] at h;exact ⟨by omega, h.1⟩
structure Aud (a : Act) : Prop where
 scope : 0 ≤ a.scope ∧ a.scope ≤ 3
 group : a.group.length ≤ 24
 to : a.to.length ≤ 64 ∧ ∀ s ∈ a.to, s.length = 16
 text : a.text.length ≤ 500
 body : a.body.nonce.length ≤ 32 ∧ a.body.data.length ≤ 500 ∧ a.body.tag.length ≤ 16
 epoch : 0 ≤ a.epoch ∧ a.epoch ≤ 1073741824
theorem VG {a : Act} (h : DU a = true) : Aud a := by
 unfold DU at h;rw [Bool.and_eq_true] at h;obtain ⟨h1, h2⟩ := h;have h1 := Li h1;split at h2
 ·rename_i h0
  simp only [Bool.and_eq_true, decide_eq_true_eq] at h2;obtain ⟨⟨⟨a1, a2⟩, a3⟩, a4⟩ := h2;exact ⟨by omega, by rw [a1]; simp, h1, Ja a3, by rw [a4]; simp [Cq], by omega⟩
 ·simp only [Bool.and_eq_true, decide_eq_true_eq, Bb] at h2
  obtain ⟨⟨⟨⟨_, a1⟩, a2⟩, a3⟩, a4⟩ := h2;have b1 := Rg a1;have b4 := Oh a4;exact ⟨by omega, b1.1, h1, by rw [a3]; simp, by omega, a2⟩
theorem C0 {a : Act} (h : right a = true) : Sm a := by
 obtain ⟨h1, h2, h3, h4, r, h5, h6, h7⟩ := right_iff.1 h;have k := Rl h5;have hp : a.prev.length ≤ 32 ∧ 0 ≤ a.seq ∧ a.seq ≤ 1073741824 := by
  unfold Ck at h2;split at h2
  ·simp only [Bool.and_eq_true, decide_eq_true_eq] at h2; rw [h2.2]; simp; omega
  ·simp only [Bool.and_eq_true, decide_eq_true_eq, Bb] at h2; have := ID h2.2; omega
 have h1 := G1 h1;rw [Bb] at h3;clear h2;cases r <;> simp only [out, CJ, Bool.and_eq_true, decide_eq_true_eq] at h6 <;> simp only [Ru.ok, Bool.and_eq_true] at h7
 case begin =>
  obtain ⟨⟨⟨⟨⟨⟨⟨a1, a2⟩, a3⟩, a4⟩, a5⟩, a6⟩, a7⟩, a8⟩ := h6;obtain ⟨b1, b2⟩ := h7;simp only [home, pub, Bool.and_eq_true, Bb] at b2;have := MJ b1;exact ⟨by omega, hp.2, hp.1, k, h3, by simp [a1], by simp [a2], by omega, by simp [a4], by simp [a5], by omega, by simp [a6, Cq], by omega, by simp [a8], by omega, by omega, h4⟩
 case post =>
  obtain ⟨⟨⟨⟨a1, a2⟩, a3⟩, a4⟩, a5⟩ := h6;have c := VG h7;exact ⟨by omega, hp.2, hp.1, k, h3, by simp [a1], by simp [a2], c.scope, c.group, c.to, c.text, c.body, c.epoch, by simp [a3], by omega, by omega, h4⟩
 case reply =>
  obtain ⟨⟨⟨a2, a3⟩, a4⟩, a5⟩ := h6;have c := VG h7.2;exact ⟨by omega, hp.2, hp.1, k, h3, ID h7.1, by simp [a2], c.scope, c.group, c.to, c.text, c.body, c.epoch, by simp [a3], by omega, by omega, h4⟩
 case about =>
  obtain ⟨⟨⟨⟨⟨⟨⟨⟨⟨a1, a2⟩, a3⟩, a4⟩, a5⟩, a6⟩, a7⟩, a8⟩, a9⟩, a10⟩ := h6;exact ⟨by omega, hp.2, hp.1, k, h3, ID h7, by simp [a1], by omega, by simp [a3], by simp [a4], by simp [a5], by simp [a6, Cq], by omega, by simp [a8], by omega, by omega, h4⟩
 case tie =>
  obtain ⟨⟨⟨⟨⟨⟨⟨⟨⟨a1, a2⟩, a3⟩, a4⟩, a5⟩, a6⟩, a7⟩, a8⟩, a9⟩, a10⟩ := h6;have := G1 h7;exact ⟨by omega, hp.2, hp.1, k, h3, by simp [a1], by omega, by omega, by simp [a3], by simp [a4], by simp [a5], by simp [a6, Cq], by omega, by simp [a8], by omega, by omega, h4⟩
 case reason =>
  obtain ⟨⟨⟨⟨⟨⟨⟨⟨a1, a2⟩, a3⟩, a4⟩, a6⟩, a7⟩, a8⟩, a9⟩, a10⟩ := h6;exact ⟨by omega, hp.2, hp.1, k, h3, ID h7.1, by simp [a1], by omega, by simp [a3], by simp [a4], Ja h7.2, by simp [a6, Cq], by omega, by simp [a8], by omega, by omega, h4⟩
 case circle =>
  obtain ⟨⟨⟨⟨⟨⟨⟨⟨a1, a2⟩, a3⟩, a5⟩, a6⟩, a7⟩, a8⟩, a9⟩, a10⟩ := h6;have g := MJ h7.1;exact ⟨by omega, hp.2, hp.1, k, h3, by simp [a1], by simp [a2], by omega, g, Li h7.2, by simp [a5], by simp [a6, Cq], by omega, by simp [a8], by omega, by omega, h4⟩
 case grant =>
  obtain ⟨⟨⟨⟨⟨a1, a2⟩, a5⟩, a6⟩, a9⟩, a10⟩ := h6;simp only [grant, Bool.and_eq_true, Bb] at h7;obtain ⟨⟨⟨b1, b2⟩, b3⟩, b4⟩ := h7;have c1 := Rg b1;have c3 := Li b3;exact ⟨by omega, hp.2, hp.1, k, h3, by simp [a1], by simp [a2], by omega, c1.1, c3, by simp [a5], by simp [a6, Cq], b2, Qu b4 c3.1, by omega, by omega, h4⟩
 case label =>
  obtain ⟨⟨⟨⟨⟨⟨⟨a3, a4⟩, a5⟩, a6⟩, a7⟩, a8⟩, a9⟩, a10⟩ := h6;simp only [label, Bool.and_eq_true, Bool.or_eq_true, decide_eq_true_eq] at h7;have b1 := MJ h7.1;have b2 : a.object.length ≤ 32 ∧ a.target.length ≤ 16 := by
   rcases h7.2 with ⟨x, y⟩ | ⟨x, y⟩
   ·exact ⟨ID x, by simp [y]⟩
   ·exact ⟨by simp [y], by have := G1 x; omega⟩
  exact ⟨by omega, hp.2, hp.1, k, h3, b2.1, b2.2, by omega, by simp [a4], by simp [a5], by omega, by simp [a6, Cq], by omega, by simp [a8], by omega, by omega, h4⟩
 case move =>
  obtain ⟨⟨⟨⟨⟨⟨⟨⟨a1, a2⟩, a3⟩, a4⟩, a5⟩, a6⟩, a7⟩, a8⟩, a9⟩ := h6;simp only [home, pub, Bool.and_eq_true, Bb] at h7;exact ⟨by omega, hp.2, hp.1, k, h3, by simp [a1], by simp [a2], by omega, by simp [a4], by simp [a5], by simp [a6], by simp [a7, Cq], by omega, by simp [a9], by omega, by omega, h4⟩
 case setup =>
  obtain ⟨⟨⟨⟨⟨⟨a1, a2⟩, a3⟩, a4⟩, a6⟩, a7⟩, a8⟩ := h6;simp only [setup, pub, Bool.and_eq_true, Bb, decide_eq_true_eq] at h7;obtain ⟨⟨⟨⟨b0, b1⟩, b2⟩, b3⟩, b4⟩ := h7;have c1 := Li b1;exact ⟨by omega, hp.2, hp.1, k, h3, by simp [a1], by simp [a2], by omega, by simp [a4], c1, by simp [a6], by simp [a7, Cq], by omega, Qu b2 c1.1, by omega, by omega, h4⟩
 case judge =>
  obtain ⟨⟨⟨⟨⟨⟨⟨⟨a1, a2⟩, a3⟩, a4⟩, a5⟩, a6⟩, a7⟩, a8⟩, a10⟩ := h6;rw [Bb] at h7;exact ⟨by omega, hp.2, hp.1, k, h3, ID h7.1, by simp [a1], by omega, by simp [a3], by simp [a4], by simp [a5], by simp [a6, Cq], by omega, by simp [a8], by omega, by omega, h4⟩
 case list =>
  obtain ⟨⟨⟨⟨⟨⟨⟨a1, a2⟩, a3⟩, a4⟩, a6⟩, a7⟩, a8⟩, a10⟩ := h6;simp only [Bool.and_eq_true, Bb] at h7;obtain ⟨⟨b1, b2⟩, b3⟩ := h7;have := G1 b1;exact ⟨by omega, hp.2, hp.1, k, h3, by simp [a1], by omega, by omega, by simp [a3], by simp [a4], Ja b2, by simp [a6, Cq], by omega, by simp [a8], by omega, by omega, h4⟩
theorem Sc {n : Int} (h : 0 ≤ n) : Ag n ≠ [] := by
 unfold Ag;rw [if_neg (by omega)]
 intro e;have := Sb n.toNat;rw [e] at this;simp at this
theorem bytes_wrong {a : Act} (h : right a = false) : bytes a = [] ∧ AM a = [] := by
 unfold bytes AM;simp [h]
theorem PN {a : Act} (h : right a = true) : AM a ≠ [] := by
 unfold AM Gz;rw [if_pos h];simp [text, Ih]
theorem Zd1 (a : Act) : bytes a = if AM a = [] then [] else AM a ++ Ag a.sig.e ++ Ag a.sig.s := by
 cases h : right a with
 | false => rw [(bytes_wrong h).1, (bytes_wrong h).2]; rfl
 | true =>
  rw [if_neg (PN h)];unfold bytes AM;rw [if_pos h, if_pos h]
theorem On (a : Act) (s : Sig) (hs : AI s = true) (h : right a = true) : right { a with sig := s } = true := by
 obtain ⟨h1, h2, h3, h4, r, h5, h6, h7⟩ := right_iff.1 h;refine right_iff.2 ⟨h1, h2, h3, hs, r, h5, h6, ?_⟩
 cases r <;> exact h7
theorem Ys {a : Act} {k : Key} (h : right { a with sig := Bl } = true) (hk : k.right = true) : BI k a = { a with sig := CX k (AM { a with sig := Bl }) } ∧ right (BI k a) = true ∧ AM (BI k a) = AM { a with sig := Bl } := by
 have e : BI k a = { a with sig := CX k (AM { a with sig := Bl }) } := by
  unfold BI;simp only
  rw [h, hk];rfl
 have hr := Q9 k (AM { a with sig := Bl })
 have hs : AI (CX k (AM { a with sig := Bl })) = true := by
  simp only [AI, Bool.and_eq_true, Bb];omega
 have hr : right (BI k a) = true := by
  rw [e];exact On { a with sig := Bl } _ hs h
 refine ⟨e, hr, ?_⟩
 unfold AM;rw [if_pos hr, if_pos h, e];rfl
theorem Yr {a : Act} {k : Key} (h : right { a with sig := Bl } = true) (hk : k.right = true) : C7 k.pub (BI k a) = true := by
 obtain ⟨e, hr, hc⟩ := Ys h hk;unfold C7;rw [hr, hc, e];simp only [Bool.true_and];exact QK hk _
end Ac
end
section
namespace It
open Go Co Sg Ac
structure Claim where
 actor : By
 base : Int
 prev : By
 gen : Int
 home : Int
 pub : Int
 time : Int
 sig : Sig
 deriving DecidableEq
structure Ballot where
 server : Int
 actor : By
 gen : Int
 claim : By
 time : Int
 sig : Sig
 deriving DecidableEq
structure Decision where
 server : Int
 number : Int
 kind : Int
 actor : By
 object : By
 text : By
 to : List By
 n : Int
 frm : Int
 til : Int
 sig : Sig
 deriving DecidableEq
structure Item where
 kind : Int
 act : Ac.Act
 claim : Claim
 ballot : Ballot
 decision : Decision
 deriving DecidableEq
structure Entry where
 time : Int
 item : Item
 deriving DecidableEq
def C5 : Claim := ⟨[], 0, [], 0, 0, 0, 0, Bl⟩
def Dv : Ballot := ⟨0, [], 0, [], 0, Bl⟩
def Dr : Decision := ⟨0, 0, 0, [], [], [], [], 0, 0, 0, Bl⟩
def CM : Item := ⟨0, Au, C5, Dv, Dr⟩
def B4 (n : Int) : Bool := wi n 0 19
def isTime (n : Int) : Bool := wi n 0 1099511627776
def D2 (c : Claim) : Bool := AD c.actor && wi c.base 1 1073741824 && AP c.prev && wi c.gen 0 1073741824 && B4 c.home && wi c.pub 1 2305843009213693950 && isTime c.time && AI c.sig
def D3 (b : Ballot) : Bool := B4 b.server && AD b.actor && wi b.gen 0 1073741824 && AP b.claim && isTime b.time && AI b.sig
def AK (d : Decision) : Bool := decide (d.to = []) && decide (d.n = 0)
def Ct (d : Decision) : Bool :=
 if d.kind = 0 ∨ d.kind = 1 ∨ d.kind = 4 ∨ d.kind = 6 ∨ d.kind = 7 then AD d.actor && decide (d.object = []) && Cs d.text && AK d
 else if d.kind = 2 ∨ d.kind = 3 ∨ d.kind = 5 then decide (d.actor = []) && AP d.object && Cs d.text && AK d
 else if d.kind = 8 then decide (d.actor = []) && decide (d.object = []) && Cs d.text && BR d.to && wi d.n 1 d.to.length
 else if d.kind = 9 then decide (d.actor = []) && decide (d.object = []) && decide (d.text.length ≤ 4096) && AK d
 else false
def D1 (d : Decision) : Bool := B4 d.server && wi d.number 0 1073741824 && isTime d.frm && isTime d.til && decide (d.frm < d.til) && Ct d && AI d.sig
def rest (it : Item) : Item :=
 if it.kind = 0 then { it with kind := 0, act := Au } else if it.kind = 1 then { it with kind := 0, claim := C5 } else if it.kind = 2 then { it with kind := 0, ballot := Dv } else if it.kind = 3 then { it with kind := 0, decision := Dr } else { it with kind := 0 }
def Ic (it : Item) : Bool := if it.kind = 0 then Ac.right it.act else if it.kind = 1 then D2 it.claim else if it.kind = 2 then D3 it.ballot else if it.kind = 3 then D1 it.decision else false
def right (it : Item) : Bool := Ic it && decide (rest it = CM)
def Dd (c : Claim) : By := text c.actor ++ Ag c.base ++ text c.prev ++ Ag c.gen ++ Ag c.home ++ Ag c.pub ++ Ag c.time
def Df (b : Ballot) : By := Ag b.server ++ text b.actor ++ Ag b.gen ++ text b.claim ++ Ag b.time
def Dc (d : Decision) : By := Ag d.server ++ Ag d.number ++ Ag d.kind ++ text d.actor ++ text d.object ++ text d.text ++ list d.to ++ Ag d.n ++ Ag d.frm ++ Ag d.til
abbrev HZ : By := [99, 108, 97, 105, 109]
abbrev H2 : By := [98, 97, 108, 108, 111, 116]
abbrev HY : By := [100, 101, 99, 105, 115, 105, 111, 110]
def Bp (it : Item) : Sig := if it.kind = 1 then it.claim.sig else if it.kind = 2 then it.ballot.sig else it.decision.sig
def Ec (it : Item) : By := if it.kind = 1 then Dd it.claim else if it.kind = 2 then Df it.ballot else Dc it.decision
def Jn (it : Item) : By := if it.kind = 1 then HZ else if it.kind = 2 then H2 else HY
def D6 (it : Item) : By := text (Jn it) ++ Ec it
def Ob (p : Int) (it : Item) : Bool := Gb p (D6 it) (Bp it)
def FA (it : Item) : By := if it.kind = 0 then Ac.bytes it.act else Ec it ++ (Ag (Bp it).e ++ Ag (Bp it).s)
def bytes (it : Item) : By := if right it then Ag it.kind ++ FA it else []
def Ow (x : R) : Sig × R := (⟨(Bz x).1, (Bz (Bz x).2).1⟩, (Bz (Bz x).2).2)
def RJ (x : R) : Claim × R :=
 let actor := x.text
 let base := Bz actor.2
 let prev := base.2.text
 let gen := Bz prev.2
 let home := Bz gen.2
 let pub := Bz home.2
 let time := Bz pub.2
 let s := Ow time.2
 (⟨actor.1, base.1, prev.1, gen.1, home.1, pub.1, time.1, s.1⟩, s.2)
def RL (x : R) : Ballot × R :=
 let server := Bz x
 let actor := server.2.text
 let gen := Bz actor.2
 let claim := gen.2.text
 let time := Bz claim.2
 let s := Ow time.2
 (⟨server.1, actor.1, gen.1, claim.1, time.1, s.1⟩, s.2)
def RI (x : R) : Decision × R :=
 let server := Bz x
 let number := Bz server.2
 let kind := Bz number.2
 let actor := kind.2.text
 let object := actor.2.text
 let text := object.2.text
 let to := text.2.list
 let n := Bz to.2
 let frm := Bz n.2
 let til := Bz frm.2
 let s := Ow til.2
 (⟨server.1, number.1, kind.1, actor.1, object.1, text.1, to.1, n.1, frm.1, til.1, s.1⟩, s.2)
def ZO (x : R) : Item × Bool × R :=
 let k := Bz x
 if k.1 = 0 then
  let t := k.2.take k.2.rest.length
  let a := Ac.read t.1
  ({ CM with act := a.1 }, a.2, t.2)
 else if k.1 = 1 then ({ CM with kind := 1, claim := (RJ k.2).1 }, true, (RJ k.2).2)
 else if k.1 = 2 then ({ CM with kind := 2, ballot := (RL k.2).1 }, true, (RL k.2).2)
 else if k.1 = 3 then ({ CM with kind := 3, decision := (RI k.2).1 }, true, (RI k.2).2)
 else ({ CM with kind := k.1 }, true, k.2)
def read (s : By) : Item × Bool :=
 let x := ZO ⟨s, false⟩
 if x.2.1 = true ∧ x.2.2.done = true ∧ s ≠ [] ∧ bytes x.1 = s then (x.1, true) else (CM, false)
def digest (it : Item) : By := if bytes it = [] then [] else Sm.sha (bytes it)
def Av (a : Ac.Act) : Item := { CM with act := a }
def Ge (it : Item) : Int := if it.kind = 2 then it.ballot.server else it.decision.server
def signed (ps : List Int) (it : Item) : Bool :=
 if right it then (if it.kind = 2 ∨ it.kind = 3 then decide (Ge it < ps.length) && Ob (ps.getD (Ge it).toNat 0) it else true) else false
def Da (e : Entry) : By := if isTime e.time && right e.item then Ag e.time ++ bytes e.item else []
theorem right_act {it : Item} (h0 : it.kind = 0) : right it = true ↔ Ac.right it.act = true ∧ it.claim = C5 ∧ it.ballot = Dv ∧ it.decision = Dr := by
 obtain ⟨k, a, c, b, d⟩ := it;simp only at h0
 subst h0;simp [right, Ic, rest, CM]
theorem right_claim {it : Item} (h0 : it.kind = 1) : right it = true ↔ D2 it.claim = true ∧ it.act = Au ∧ it.ballot = Dv ∧ it.decision = Dr := by
 obtain ⟨k, a, c, b, d⟩ := it;simp only at h0
 subst h0;simp [right, Ic, rest, CM]
theorem right_ballot {it : Item} (h0 : it.kind = 2) : right it = true ↔ D3 it.ballot = true ∧ it.act = Au ∧ it.claim = C5 ∧ it.decision = Dr := by
 obtain ⟨k, a, c, b, d⟩ := it;simp only at h0
 subst h0;simp [right, Ic, rest, CM]
theorem right_decision {it : Item} (h0 : it.kind = 3) : right it = true ↔ D1 it.decision = true ∧ it.act = Au ∧ it.claim = C5 ∧ it.ballot = Dv := by
 obtain ⟨k, a, c, b, d⟩ := it;simp only at h0
 subst h0;simp [right, Ic, rest, CM]
theorem right_kind {it : Item} (h : right it = true) : it.kind = 0 ∨ it.kind = 1 ∨ it.kind = 2 ∨ it.kind = 3 := by
 unfold right Ic at h;rw [Bool.and_eq_true] at h;have h := h.1;split at h
 ·omega
 split at h
 ·omega
 split at h
 ·omega
 split at h
 ·omega
 ·cases h
structure SmC (c : Claim) : Prop where
 actor : c.actor.length = 16
 base : 1 ≤ c.base ∧ c.base ≤ 1073741824
 prev : c.prev.length = 32
 gen : 0 ≤ c.gen ∧ c.gen ≤ 1073741824
 home : 0 ≤ c.home ∧ c.home ≤ 19
 pub : 1 ≤ c.pub ∧ c.pub ≤ 2305843009213693950
 time : 0 ≤ c.time ∧ c.time ≤ 1099511627776
 sig : AI c.sig = true
theorem PP {c : Claim} (h : D2 c = true) : SmC c := by
 simp only [D2, B4, isTime, Bool.and_eq_true, Bb] at h;obtain ⟨⟨⟨⟨⟨⟨⟨h1, h2⟩, h3⟩, h4⟩, h5⟩, h6⟩, h7⟩, h8⟩ := h;exact ⟨G1 h1, h2, of_decide_eq_true h3, h4, h5, h6, h7, h8⟩
structure SmB (b : Ballot) : Prop where
 server : 0 ≤ b.server ∧ b.server ≤ 19
 actor : b.actor.length = 16
 gen : 0 ≤ b.gen ∧ b.gen ≤ 1073741824
 claim : b.claim.length = 32
 time : 0 ≤ b.time ∧ b.time ≤ 1099511627776
 sig : AI b.sig = true
theorem Nw {b : Ballot} (h : D3 b = true) : SmB b := by
 simp only [D3, B4, isTime, Bool.and_eq_true, Bb] at h;obtain ⟨⟨⟨⟨⟨h1, h2⟩, h3⟩, h4⟩, h5⟩, h6⟩ := h;exact ⟨h1, G1 h2, h3, of_decide_eq_true h4, h5, h6⟩
structure SmD (d : Decision) : Prop where
 server : 0 ≤ d.server ∧ d.server ≤ 19
 number : 0 ≤ d.number ∧ d.number ≤ 1073741824
 kind : 0 ≤ d.kind ∧ d.kind ≤ 9
 actor : d.actor.length ≤ 16
 object : d.object.length ≤ 32
 text : d.text.length ≤ 4096
 to : d.to.length ≤ 64 ∧ ∀ s ∈ d.to, s.length = 16
 n : 0 ≤ d.n ∧ d.n ≤ 64
 frm : 0 ≤ d.frm ∧ d.frm ≤ 1099511627776
 til : 0 ≤ d.til ∧ d.til ≤ 1099511627776
 sig : AI d.sig = true
theorem OE {d : Decision} : AK d = true ↔ d.to = [] ∧ d.n = 0 := by simp [AK]
theorem Nf {d : Decision} (h : D1 d = true) : SmD d := by
 simp only [D1, B4, isTime, Bool.and_eq_true, Bb] at h;obtain ⟨⟨⟨⟨⟨⟨h1, h2⟩, h3⟩, h4⟩, h5⟩, h6⟩, h7⟩ := h;have key : (0 ≤ d.kind ∧ d.kind ≤ 9) ∧ d.actor.length ≤ 16 ∧ d.object.length ≤ 32 ∧ d.text.length ≤ 4096 ∧ (d.to.length ≤ 64 ∧ ∀ s ∈ d.to, s.length = 16) ∧ (0 ≤ d.n ∧ d.n ≤ 64) := by
  unfold Ct at h6;split at h6
  ·simp only [Bool.and_eq_true, decide_eq_true_eq, OE] at h6
   obtain ⟨⟨⟨a1, a2⟩, a3⟩, a4, a5⟩ := h6;have := G1 a1;have := Ja a3;exact ⟨by omega, by omega, by simp [a2], by omega, by simp [a4], by omega⟩
  split at h6
  ·simp only [Bool.and_eq_true, decide_eq_true_eq, OE] at h6
   obtain ⟨⟨⟨a1, a2⟩, a3⟩, a4, a5⟩ := h6;have := Ja a3;exact ⟨by omega, by simp [a1], ID a2, by omega, by simp [a4], by omega⟩
  split at h6
  ·simp only [Bool.and_eq_true, decide_eq_true_eq, Bb] at h6
   obtain ⟨⟨⟨⟨a1, a2⟩, a3⟩, a4⟩, a5⟩ := h6;have := Ja a3;have := Li a4;exact ⟨by omega, by simp [a1], by simp [a2], by omega, this, by omega⟩
  split at h6
  ·simp only [Bool.and_eq_true, decide_eq_true_eq, OE] at h6
   obtain ⟨⟨⟨a1, a2⟩, a3⟩, a4, a5⟩ := h6;exact ⟨by omega, by simp [a1], by simp [a2], a3, by simp [a4], by omega⟩
  ·cases h6
 obtain ⟨k1, k2, k3, k4, k5, k6⟩ := key;exact ⟨h1, h2, k1, k2, k3, k4, k5, k6, h3, h4, h7⟩
theorem bytes_right {it : Item} (h : right it = true) : bytes it = Ag it.kind ++ FA it := by unfold bytes; rw [if_pos h]
theorem bytes_wrong {it : Item} (h : right it = false) : bytes it = [] := by unfold bytes; simp [h]
theorem Zd0 {it : Item} (h : right it = true) : bytes it ≠ [] := by
 rw [bytes_right h];have hk := right_kind h;intro e;exact Sc (by omega) (List.append_eq_nil_iff.1 e).1
theorem ZcH {e : Entry} : (Da e ≠ []) ↔ (isTime e.time = true ∧ right e.item = true) := by
 unfold Da;constructor
 ·intro h
  split at h
  ·rename_i hc; simpa using hc
  ·exact absurd rfl h
 ·rintro ⟨h1, h2⟩
  rw [if_pos (by rw [h1, h2]; rfl)]
  intro e;exact Zd0 h2 (List.append_eq_nil_iff.1 e).2
end It
end
section
namespace Mk
open Go Sm
abbrev By := List UInt8
def sp (n : Nat) : Nat := 2 ^ Nat.log2 (n - 1)
theorem Yg {n j : Nat} (h1 : 2 ^ j < n) (h2 : n ≤ 2 ^ (j + 1)) : sp n = 2 ^ j := by
 unfold sp;congr 1
 exact (Nat.log2_eq_iff (by omega)).2 ⟨by omega, by omega⟩
theorem Fl {n : Nat} (h : 2 ≤ n) : sp n < n := by
 have := (Nat.log2_eq_iff (n := n - 1) (k := Nat.log2 (n - 1)) (by omega)).1 rfl
 unfold sp; omega
theorem FM (n : Nat) : 0 < sp n := Nat.pow_pos (by omega)
def My (l r : By) : By := 1 :: (l ++ r)
def Gn (l r : By) : By := sha (My l r)
def leaf (s : By) : By := sha (0 :: s)
def FO : Nat → List By → By
 | 0, l => l.headD []
 | f + 1, l => if l.length ≤ 1 then l.headD [] else Gn (FO f (l.take (sp l.length))) (FO f (l.drop (sp l.length)))
def rt (l : List By) : By := FO l.length l
def root (l : List By) : By := if l = [] then sha [] else rt l
theorem KI : ∀ (f f' : Nat) (l : List By), l.length ≤ f + 1 → l.length ≤ f' + 1 → FO f l = FO f' l
 | 0, 0, l, h, h' => rfl
 | 0, f' + 1, l, h, h' => by simp only [FO]; rw [if_pos (by omega)]
 | f + 1, 0, l, h, h' => by simp only [FO]; rw [if_pos (by omega)]
 | f + 1, f' + 1, l, h, h' => by
  simp only [FO];by_cases h1 : l.length ≤ 1
  ·rw [if_pos h1, if_pos h1]
  ·rw [if_neg h1, if_neg h1]
   have := Fl (n := l.length) (by omega)
   have := FM l.length;rw [KI f f' (l.take _) (by simp; omega) (by simp; omega), KI f f' (l.drop _) (by simp; omega) (by simp; omega)]
theorem Oj {l : List By} (h : l.length ≤ 1) : rt l = l.headD [] := by
 unfold rt;cases hl : l.length with
 | zero => rfl
 | succ n => simp only [FO]; rw [if_pos h]
theorem Mn {l : List By} (h : 2 ≤ l.length) : rt l = Gn (rt (l.take (sp l.length))) (rt (l.drop (sp l.length))) := by
 have := Fl h;have := FM l.length;unfold rt;rw [KI l.length (l.length - 1 + 1) l (by omega) (by omega)]
 simp only [FO];rw [if_neg (by omega), KI (l.length - 1) (l.take (sp l.length)).length _ (by simp; omega) (by omega), KI (l.length - 1) (l.drop (sp l.length)).length _ (by simp; omega) (by omega)]
def Fv : Nat → List By → Nat → Bool → List By
 | 0, l, m, w => if m = l.length then (if w then [] else [rt l]) else []
 | f + 1, l, m, w => if m = l.length then (if w then [] else [rt l]) else
  if m ≤ sp l.length then Fv f (l.take (sp l.length)) m w ++ [rt (l.drop (sp l.length))] else Fv f (l.drop (sp l.length)) (m - sp l.length) false ++ [rt (l.take (sp l.length))]
def link (l : List By) (m : Nat) (w : Bool) : List By := Fv l.length l m w
theorem K3 : ∀ (f f' : Nat) (l : List By) (m : Nat) (w : Bool), 0 < m → m ≤ l.length → l.length ≤ f + 1 → l.length ≤ f' + 1 → Fv f l m w = Fv f' l m w
 | 0, 0, l, m, w, _, _, h, h' => rfl
 | 0, f' + 1, l, m, w, h0, hm, h, h' => by
  have e : m = l.length := by omega
  simp only [Fv, if_pos e]
 | f + 1, 0, l, m, w, h0, hm, h, h' => by
  have e : m = l.length := by omega
  simp only [Fv, if_pos e]
 | f + 1, f' + 1, l, m, w, h0, hm, h, h' => by
  simp only [Fv];by_cases h1 : m = l.length
  ·rw [if_pos h1, if_pos h1]
  ·rw [if_neg h1, if_neg h1]
   have := Fl (n := l.length) (by omega)
   have := FM l.length;by_cases h2 : m ≤ sp l.length
   ·rw [if_pos h2, if_pos h2, K3 f f' (l.take _) _ _ h0 (by simp; omega) (by simp; omega) (by simp; omega)]
   ·rw [if_neg h2, if_neg h2, K3 f f' (l.drop _) _ _ (by omega) (by simp; omega) (by simp; omega) (by simp; omega)]
theorem OX (l : List By) (w : Bool) : link l l.length w = if w then [] else [rt l] := by
 unfold link;cases hl : l.length with
 | zero => simp only [Fv]; rw [if_pos hl.symm]
 | succ n => simp only [Fv]; rw [if_pos hl.symm]
theorem OW {l : List By} {m : Nat} (h0 : 0 < m) (hm : m < l.length) (w : Bool) : link l m w =
  if m ≤ sp l.length then link (l.take (sp l.length)) m w ++ [rt (l.drop (sp l.length))] else link (l.drop (sp l.length)) (m - sp l.length) false ++ [rt (l.take (sp l.length))] := by
 have := Fl (n := l.length) (by omega)
 have := FM l.length;unfold link;rw [K3 l.length (l.length - 1 + 1) l _ _ h0 (by omega) (by omega) (by omega)]
 simp only [Fv];rw [if_neg (by omega)]
 by_cases h2 : m ≤ sp l.length
 ·rw [if_pos h2, if_pos h2, K3 (l.length - 1) (l.take (sp l.length)).length _ _ _ h0 (by simp; omega) (by simp; omega) (by omega)]
 ·rw [if_neg h2, if_neg h2, K3 (l.length - 1) (l.drop (sp l.length)).length _ _ _ (by omega) (by simp; omega) (by simp; omega) (by omega)]
def B3 : List By → Nat → Nat → By → Bool → By × By × Bool
 | [], m, n, old, mark => if m = n ∧ mark = true then (old, old, true) else ([], [], false)
 | q :: r, m, n, old, mark => if m = n then (if mark then (old, old, false) else if r = [] then (q, q, true) else ([], [], false)) else
  if m ≤ sp n then ((B3 r m (sp n) old mark).1, Gn (B3 r m (sp n) old mark).2.1 q, (B3 r m (sp n) old mark).2.2)
  else (Gn q (B3 r (m - sp n) (n - sp n) old false).1, Gn q (B3 r (m - sp n) (n - sp n) old false).2.1, (B3 r (m - sp n) (n - sp n) old false).2.2)
end Mk
end
section
namespace Mk
open Go Sm
abbrev Dig (l : List By) : Prop := ∀ x ∈ l, x.length = 32
theorem sha_len' (l : By) : (sha l).length = 32 := by simp [sha, S8.list, Fe]
theorem rt_dig {l : List By} (h0 : 0 < l.length) (h : Dig l) : (rt l).length = 32 := by
 by_cases h2 : 2 ≤ l.length
 ·rw [Mn h2]; exact sha_len' _
 ·obtain ⟨a, rfl⟩ := List.length_eq_one_iff.1 (by omega : l.length = 1)
  rw [Oj (by simp)]; exact h a (by simp)
end Mk
end
section
namespace Sl
open Go Co Sg Ac It
structure Head where
 server : Int
 size : Int
 root : By
 time : Int
 sig : Sig
 deriving DecidableEq
def MZ : Head := ⟨0, 0, [], 0, Bl⟩
def BJ (h : Head) : Bool := wi h.server 0 19 && wi h.size 0 1073741824 && wi h.time 0 1099511627776 && AP h.root && AI h.sig
abbrev I0 : By := [104, 101, 97, 100]
def DT (h : Head) : By := text I0 ++ Ag h.server ++ Ag h.size ++ text h.root ++ Ag h.time
def EC (p : Int) (h : Head) : Bool := BJ h && Gb p (DT h) h.sig
theorem Mr {h : Head} : BJ h = true ↔ (0 ≤ h.server ∧ h.server ≤ 19) ∧ (0 ≤ h.size ∧ h.size ≤ 1073741824) ∧ (0 ≤ h.time ∧ h.time ≤ 1099511627776) ∧ h.root.length = 32 ∧ AI h.sig = true := by
 simp only [BJ, Bool.and_eq_true, Bb, AP, decide_eq_true_eq, and_assoc]
def Cy (e : It.Entry) : By := Mk.leaf (Da e)
def BG (l : List It.Entry) : By := Mk.root (l.map Cy)
theorem Za4 (e : It.Entry) : (Cy e).length = 32 := Mk.sha_len' _
theorem MS (l : List It.Entry) : Mk.Dig (l.map Cy) := fun x hx => by
 obtain ⟨e, _, rfl⟩ := List.mem_map.1 hx;exact Za4 e
theorem Ze {l : List By} (h : Mk.Dig l) : (Mk.root l).length = 32 := by
 unfold Mk.root;split
 ·exact Mk.sha_len' _
 ·rename_i h0
  exact Mk.rt_dig (List.length_pos_iff.2 h0) h
theorem Zf (l : List It.Entry) : (BG l).length = 32 := Ze (MS l)
def CL (k : Key) (server : Int) (l : List It.Entry) (time : Int) : Head :=
 if k.right then
  let h : Head := ⟨server, l.length, BG l, time, Bl⟩
  if BJ h then { h with sig := CX k (DT h) } else MZ
 else MZ
theorem Yt (k : Key) (m : By) : AI (CX k m) = true := by
 obtain ⟨h1, h2, h3, h4⟩ := Q9 k m;simp only [AI, wi, Bool.and_eq_true, decide_eq_true_eq];omega
theorem On {h : Head} (hr : BJ h = true) {s : Sig} (hs : AI s = true) : BJ { h with sig := s } = true := by
 obtain ⟨h1, h2, h3, h4, _⟩ := Mr.1 hr;exact Mr.2 ⟨h1, h2, h3, h4, hs⟩
theorem ZaI {k : Key} {server : Int} {l : List It.Entry} {time : Int} (hk : k.right = true) (hs : 0 ≤ server ∧ server ≤ 19) (hl : l.length ≤ 1073741824) (ht : 0 ≤ time ∧ time ≤ 1099511627776) :
  CL k server l time = ⟨server, l.length, BG l, time, CX k (DT ⟨server, l.length, BG l, time, Bl⟩)⟩ ∧ BJ (CL k server l time) = true ∧ EC k.pub (CL k server l time) = true := by
 have h0 : BJ ⟨server, l.length, BG l, time, Bl⟩ = true := Mr.2 ⟨hs, by simp only; omega, ht, Zf l, rfl⟩
 have e : CL k server l time = ⟨server, l.length, BG l, time, CX k (DT ⟨server, l.length, BG l, time, Bl⟩)⟩ := by
  unfold CL;rw [if_pos hk];simp only
  rw [if_pos h0]
 rw [e];have h1 := On h0 (Yt k (DT ⟨server, l.length, BG l, time, Bl⟩));refine ⟨rfl, h1, ?_⟩
 unfold EC;rw [show BJ ⟨server, l.length, BG l, time, CX k (DT ⟨server, l.length, BG l, time, Bl⟩)⟩ = true from h1]
 exact QK hk _
def times : List It.Entry → Bool
 | a :: b :: r => decide (a.time ≤ b.time) && times (b :: r)
 | _ => true
theorem LZ : ∀ {l : List It.Entry}, times l = true ↔ ∀ j (h : j + 1 < l.length), l[j].time ≤ l[j + 1].time
 | [] => by simp [times]
 | [a] => by simp [times]
 | a :: b :: r => by
  rw [times, Bool.and_eq_true, decide_eq_true_eq, LZ (l := b :: r)];constructor
  ·rintro ⟨h1, h2⟩ j h
   cases j with
   | zero => exact h1
   | succ j => exact h2 j (by simpa using h)
  ·intro h
   exact ⟨h 0 (by simp), fun j hj => h (j + 1) (by simpa using hj)⟩
theorem XN {l : List It.Entry} (h : times l = true) (n : Nat) : times (l.take n) = true := by
 rw [LZ] at h ⊢;intro j hj;rw [List.length_take] at hj;rw [List.getElem_take, List.getElem_take];exact h j (by omega)
structure Mirror where
 server : Int
 entries : List It.Entry
 heads : List Head
 deriving DecidableEq
structure Batch where
 head : Head
 frm : Int
 entries : List It.Entry
 deriving DecidableEq
def Gp : Mirror := ⟨0, [], []⟩
def IB (b : Batch) : Bool := BJ b.head && decide (1 ≤ b.entries.length) && decide (b.entries.length ≤ 64) && decide (0 ≤ b.frm) && decide (b.frm = b.head.size - b.entries.length)
def sound (ps : List Int) (e : It.Entry) : Bool := decide (Da e ≠ []) && signed ps e.item
def F3 : List It.Entry → List It.Entry → Bool
 | a :: l, b :: m => decide (a ≠ b) || F3 l m
 | _, _ => false
def KY (m : Mirror) (b : Batch) : List It.Entry := m.entries.take b.frm.toNat ++ b.entries
def take (ps : List Int) (m : Mirror) (b : Batch) : Mirror × Int :=
 if m.server < 0 ∨ ps.length ≤ m.server ∨ IB b = false ∨ b.head.server ≠ m.server then (Gp, 1)
 else if EC (ps.getD m.server.toNat 0) b.head = false then (Gp, 3)
 else if m.entries.length < b.frm then (Gp, 12)
 else if F3 (m.entries.drop b.frm.toNat) b.entries = true then (Gp, 5)
 else if BG (KY m b) ≠ b.head.root then (Gp, 17)
 else if times (KY m b) = false then (Gp, 2)
 else if b.entries.all (sound ps) = false then (Gp, 2)
 else if b.head.size ≤ m.entries.length then (m, 0)
 else (⟨m.server, KY m b, m.heads ++ [b.head]⟩, 0)
theorem Nm : ∀ {l m : List It.Entry}, F3 l m = false ↔ ∀ j (h1 : j < l.length) (h2 : j < m.length), l[j] = m[j]
 | [], m => by simp [F3]
 | a :: l, [] => by simp [F3]
 | a :: l, b :: m => by
  rw [F3, Bool.or_eq_false_iff, decide_eq_false_iff_not, Decidable.not_not, Nm (l := l) (m := m)];constructor
  ·rintro ⟨h1, h2⟩ j hj1 hj2
   cases j with
   | zero => exact h1
   | succ j => exact h2 j (by simpa using hj1) (by simpa using hj2)
  ·intro h
   exact ⟨h 0 (by simp) (by simp), fun j h1 h2 => h (j + 1) (by simpa using h1) (by simpa using h2)⟩
structure Honest (ps : List Int) (l : List It.Entry) : Prop where
 times : times l = true
 sound : l.all (sound ps) = true
theorem Yh {ps : List Int} {e : It.Entry} : sound ps e = true ↔ isTime e.time = true ∧ right e.item = true ∧ signed ps e.item = true := by
 unfold sound;rw [Bool.and_eq_true, decide_eq_true_eq, ZcH, and_assoc]
structure Good (ps : List Int) (server : Int) (k : Key) (l : List It.Entry) : Prop where
 s0 : 0 ≤ server
 s1 : server < ps.length
 s2 : ps.length ≤ 20
 key : ps.getD server.toNat 0 = k.pub
 right : k.right = true
 honest : Honest ps l
 len : l.length ≤ 80
theorem ZU (l : List It.Entry) {n frm t : Nat} (h : frm ≤ n) (hn : n ≤ l.length) (ht : frm ≤ t) : (l.take n).take frm ++ (l.take t).drop frm = l.take t := by
 rw [List.take_take, Nat.min_eq_left h];have h1 : l.take frm = (l.take t).take frm := by rw [List.take_take, Nat.min_eq_left ht]
 rw [h1, List.take_append_drop]
theorem Zax (l : List It.Entry) (n frm t : Nat) : F3 ((l.take n).drop frm) ((l.take t).drop frm) = false := by
 rw [Nm];intro j h1 h2;simp only [List.getElem_drop, List.getElem_take]
end Sl
end
end Go.Proofs.YtiidnoejnphocaaGreatDoor
