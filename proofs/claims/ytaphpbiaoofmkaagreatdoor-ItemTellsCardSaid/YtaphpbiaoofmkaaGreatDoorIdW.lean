/- Several texts in one. -/
import Derived.Test.YtaphpbiaoofmkaaGreatDoorSgP
import Derived.Test.YtaphpbiaoofmkaaGreatDoorCoV
set_option linter.unusedSectionVars false
set_option linter.unusedVariables false
set_option linter.unusedSimpArgs false
namespace Go.Proofs.YtaphpbiaoofmkaaGreatDoor.Ac
open Go Co Sg
def hexc (b : UInt8) : Bool := (decide (48 ≤ b.toNat) && decide (b.toNat ≤ 57)) || (decide (97 ≤ b.toNat) && decide (b.toNat ≤ 102))
def idR (s : By) : Bool := decide (s.length = 16) && s.all hexc
def letter (b : UInt8) : Bool := decide (97 ≤ b.toNat) && decide (b.toNat ≤ 122)
def namec (b : UInt8) : Bool := letter b || (decide (48 ≤ b.toNat) && decide (b.toNat ≤ 57)) || decide (b.toNat = 95)
def nameR : By → Bool
 | [] => false
 | c :: r => decide (r.length ≤ 23) && letter c && r.all namec
def asc : List By → Bool
 | a :: b :: r => !(Op.bytesLess b a || b == a) && asc (b :: r)
 | _ => true
def idsR (l : List By) : Bool := decide (l.length ≤ 64) && l.all idR && asc l
structure Box where
 nonce : By
 data : By
 tag : By
 deriving DecidableEq
structure Wrap where
 to : Int
 eph : Int
 box : Box
 deriving DecidableEq
structure Act where
 author : By
 seq : Int
 prev : By
 kind : Int
 time : Int
 object : By
 target : By
 scope : Int
 group : By
 to : List By
 text : By
 body : Box
 epoch : Int
 wraps : List Wrap
 n : Int
 m : Int
 sig : Sig
 deriving DecidableEq
def box0 : Box := ⟨[], [], []⟩
def sig0 : Sig := ⟨0, 0⟩
def act0 : Act := ⟨[], 0, [], 0, 0, [], [], 0, [], [], [], box0, 0, [], 0, 0, sig0⟩
def wi (n lo hi : Int) : Bool := decide (lo ≤ n) && decide (n ≤ hi)
theorem wi_iff {n lo hi : Int} : wi n lo hi = true ↔ lo ≤ n ∧ n ≤ hi := by simp [wi]
def dig (s : By) : Bool := decide (s.length = 32)
def short (s : By) : Bool := decide (s.length ≤ 500)
def pub (n : Int) : Bool := wi n 1 2305843009213693950
def sealedB (b : Box) : Bool := decide (b.nonce.length = 32) && decide (b.tag.length = 16) && short b.data
def wrapR (w : Wrap) : Bool := pub w.to && pub w.eph && sealedB w.box
def wrapped (a : Act) : Bool := a.wraps.all wrapR && decide (a.wraps.length = a.to.length)
def sealedSc (scope : Int) (group : By) : Bool := if scope = 2 then nameR group else if scope = 1 ∨ scope = 3 then decide (group = []) else false
def audience (a : Act) : Bool :=
 idsR a.to && (if a.scope = 0 then decide (a.group = []) && decide (a.epoch = 0) && short a.text && decide (a.body = box0)
  else (decide (a.to = []) || decide (a.scope = 3)) && sealedSc a.scope a.group && wi a.epoch 0 1073741824 && decide (a.text = []) && sealedB a.body)
def home (a : Act) : Bool := pub a.n && wi a.m 0 19
def grant (a : Act) : Bool := sealedSc a.scope a.group && wi a.epoch 0 1073741824 && idsR a.to && wrapped a
def label (a : Act) : Bool := nameR a.text && ((dig a.object && decide (a.target = [])) || (idR a.target && decide (a.object = [])))
def setup (a : Act) : Bool := decide (0 < a.to.length) && idsR a.to && wrapped a && wi a.n 1 a.to.length && pub a.m
def note (z : Bool) (f s : Int) : Int := if z then s else Go.bits .or .i64 s f
def used (a : Act) : Int :=
 note (decide (a.m = 0)) 1024 <| note (decide (a.n = 0)) 512 <| note (decide (a.wraps = [])) 256 <| note (decide (a.epoch = 0)) 128 <| note (decide (a.body = box0)) 64 <|
 note (decide (a.text = [])) 32 <| note (decide (a.to = [])) 16 <| note (decide (a.group = [])) 8 <| note (decide (a.scope = 0)) 4 <| note (decide (a.target = [])) 2 <| note (decide (a.object = [])) 1 0
inductive Ru where
 | begin | post | reply | about | tie | reason | circle | grant | label | move | setup | judge | list
 deriving DecidableEq
def Ru.mask : Ru → Int
 | .begin => 1568
 | .post => 252
 | .reply => 253
 | .about => 1
 | .tie => 2
 | .reason => 33
 | .circle => 24
 | .grant => 412
 | .label => 35
 | .move => 1536
 | .setup => 1808
 | .judge => 513
 | .list => 546
def Ru.ok (a : Act) : Ru → Bool
 | .begin => nameR a.text && home a
 | .post => audience a
 | .reply => dig a.object && audience a
 | .about => dig a.object
 | .tie => idR a.target
 | .reason => dig a.object && short a.text
 | .circle => nameR a.group && idsR a.to
 | .grant => Ac.grant a
 | .label => Ac.label a
 | .move => home a
 | .setup => Ac.setup a
 | .judge => dig a.object && wi a.n 0 1
 | .list => idR a.target && short a.text && wi a.n 0 1099511627776
def ruleL : List (Int × Ru) := [(0, .begin), (1, .post), (2, .reply), (3, .reply), (14, .reply), (4, .about), (5, .about), (6, .about), (13, .about), (20, .about), (7, .tie), (8, .tie), (9, .tie), (10, .tie), (11, .tie), (12, .reason), (21, .reason), (15, .circle), (16, .grant), (17, .label), (18, .move), (19, .setup), (22, .judge), (23, .list)]
def rule (k : Int) : Option Ru := ruleL.lookup k
def placed (a : Act) : Bool := if a.seq = 0 then decide (a.kind = 0) && decide (a.prev = []) else wi a.seq 1 1073741824 && decide (a.kind ≠ 0) && dig a.prev
def sigR (s : Sig) : Bool := wi s.e 0 2305843009213693949 && wi s.s 0 2305843009213693949
def right (a : Act) : Bool := idR a.author && placed a && wi a.time 0 1099511627776 && sigR a.sig &&
 (match rule a.kind with
 | none => false
 | some r => decide (Go.bits .andNot .i64 (used a) r.mask = 0) && r.ok a)
def posting (k : Int) : Bool := decide (k = 1) || decide (k = 2) || decide (k = 3)
def boxB (b : Box) : By := text b.nonce ++ text b.data ++ text b.tag
def wrapB (w : Wrap) : By := numI w.to ++ numI w.eph ++ boxB w.box
abbrev wAct : By := [97, 99, 116]
def coreB (a : Act) : By :=
 text wAct ++ text a.author ++ numI a.seq ++ text a.prev ++ numI a.kind ++ numI a.time ++ text a.object ++ text a.target ++ numI a.scope ++ text a.group ++ list a.to ++ text a.text ++ boxB a.body ++ numI a.epoch ++ num a.wraps.length ++ (a.wraps.map wrapB).flatten ++ numI a.n ++ numI a.m
def core (a : Act) : By := if right a then coreB a else []
def bytes (a : Act) : By := if right a then coreB a ++ numI a.sig.e ++ numI a.sig.s else []
def rBox (x : R) : Box × R := (⟨x.text.1, x.text.2.text.1, x.text.2.text.2.text.1⟩, x.text.2.text.2.text.2)
def rNum (x : R) : Int × R := ((x.num.1 : Int), x.num.2)
def rWrap (x : R) : Wrap × R :=
 let a := rNum x
 let b := rNum a.2
 let c := rBox b.2
 (⟨a.1, b.1, c.1⟩, c.2)
def rWrapsN : Nat → R → Option (List Wrap) × R
 | 0, x => (some [], x)
 | n + 1, x => if (rWrap x).2.rest = [] then (none, (rWrap x).2) else ((rWrapsN n (rWrap x).2).1.map ((rWrap x).1 :: ·), (rWrapsN n (rWrap x).2).2)
def rWraps (x : R) : List Wrap × R := ((rWrapsN x.num.1 x.num.2).1.getD [], (rWrapsN x.num.1 x.num.2).2)
def rAct (x : R) : Act × R :=
 let author := x.text
 let seq := rNum author.2
 let prev := seq.2.text
 let kind := rNum prev.2
 let time := rNum kind.2
 let object := time.2.text
 let target := object.2.text
 let scope := rNum target.2
 let group := scope.2.text
 let to := group.2.list
 let text := to.2.text
 let body := rBox text.2
 let epoch := rNum body.2
 let wraps := rWraps epoch.2
 let n := rNum wraps.2
 let m := rNum n.2
 let e := rNum m.2
 let s := rNum e.2
 (⟨author.1, seq.1, prev.1, kind.1, time.1, object.1, target.1, scope.1, group.1, to.1, text.1, body.1, epoch.1, wraps.1, n.1, m.1, ⟨e.1, s.1⟩⟩, s.2)
def _root_.Go.Proofs.YtaphpbiaoofmkaaGreatDoor.Co.R.done (x : R) : Bool := !x.bad && x.rest == []
def read (s : By) : Act × Bool :=
 let x : R := ⟨s, false⟩
 if x.text.1 = wAct ∧ (rAct x.text.2).2.done = true ∧ bytes (rAct x.text.2).1 = s then ((rAct x.text.2).1, true) else (act0, false)
def signA (k : Key) (a : Act) : Act :=
 let b := { a with sig := sig0 }
 if right b && k.right then { b with sig := sign k (core b) } else act0
def verifyA (p : Int) (a : Act) : Bool := right a && verify p (core a) a.sig
def same (a b : Act) : Bool := decide (a = b)
end Go.Proofs.YtaphpbiaoofmkaaGreatDoor.Ac
namespace Go.Proofs.YtaphpbiaoofmkaaGreatDoor.Ac
open Go Co Sg
def usedB (o t s g l x b e w n m : Bool) : Int :=
 note m 1024 <| note n 512 <| note w 256 <| note e 128 <| note b 64 <| note x 32 <| note l 16 <| note g 8 <| note s 4 <| note t 2 <| note o 1 0
theorem used_eq (a : Act) : used a = usedB (decide (a.object = [])) (decide (a.target = [])) (decide (a.scope = 0)) (decide (a.group = [])) (decide (a.to = [])) (decide (a.text = [])) (decide (a.body = box0)) (decide (a.epoch = 0)) (decide (a.wraps = [])) (decide (a.n = 0)) (decide (a.m = 0)) := rfl
def outB (o t s g l x b e w n m : Bool) : Ru → Bool
 | .begin => o && t && s && g && l && b && e && w
 | .post => o && t && w && n && m
 | .reply => t && w && n && m
 | .about => t && s && g && l && x && b && e && w && n && m
 | .tie => o && s && g && l && x && b && e && w && n && m
 | .reason => t && s && g && l && b && e && w && n && m
 | .circle => o && t && s && x && b && e && w && n && m
 | .grant => o && t && x && b && n && m
 | .label => s && g && l && b && e && w && n && m
 | .move => o && t && s && g && l && x && b && e && w
 | .setup => o && t && s && g && x && b && e
 | .judge => t && s && g && l && x && b && e && w && m
 | .list => o && s && g && l && b && e && w && m
theorem mask_eq (r : Ru) : ∀ o t s g l x b e w n m : Bool, decide (Go.bits .andNot .i64 (usedB o t s g l x b e w n m) r.mask = 0) = outB o t s g l x b e w n m r := by
 cases r <;> decide +kernel
def out (a : Act) (r : Ru) : Bool := outB (decide (a.object = [])) (decide (a.target = [])) (decide (a.scope = 0)) (decide (a.group = [])) (decide (a.to = [])) (decide (a.text = [])) (decide (a.body = box0)) (decide (a.epoch = 0)) (decide (a.wraps = [])) (decide (a.n = 0)) (decide (a.m = 0)) r
theorem right_iff {a : Act} : right a = true ↔ idR a.author = true ∧ placed a = true ∧ wi a.time 0 1099511627776 = true ∧ sigR a.sig = true ∧ ∃ r, rule a.kind = some r ∧ out a r = true ∧ r.ok a = true := by
 unfold right
 cases h : rule a.kind with
 | none => simp
 | some r =>
  have e : decide (Go.bits .andNot .i64 (used a) r.mask = 0) = out a r := mask_eq r _ _ _ _ _ _ _ _ _ _ _
  simp only [e, Bool.and_eq_true, and_assoc, Option.some.injEq, exists_eq_left']
theorem rule_mem {k : Int} {r : Ru} (h : rule k = some r) : (k, r) ∈ ruleL := by
 unfold rule at h
 generalize ruleL = l at h ⊢
 induction l with
 | nil => cases h
 | cons p l ih =>
  obtain ⟨j, s⟩ := p
  rw [List.lookup_cons] at h
  by_cases e : k = j
  ·subst e
   simp at h
   subst h
   simp
  ·rw [show (k == j) = false by simpa using e] at h
   exact List.mem_cons_of_mem _ (ih h)
theorem rule_range {k : Int} {r : Ru} (h : rule k = some r) : 0 ≤ k ∧ k ≤ 23 := by
 have := rule_mem h
 simp only [ruleL, List.mem_cons, Prod.mk.injEq, List.not_mem_nil, or_false] at this
 omega
theorem rule_none {k : Int} (h : k < 0 ∨ 23 < k) : rule k = none := by
 cases e : rule k with
 | none => rfl
 | some r => have := rule_range e; omega
theorem idR_len {s : By} (h : idR s = true) : s.length = 16 := by simp only [idR, Bool.and_eq_true, decide_eq_true_eq] at h; exact h.1
theorem nameR_len {s : By} (h : nameR s = true) : s.length ≤ 24 := by
 cases s with
 | nil => cases h
 | cons c r => simp only [nameR, Bool.and_eq_true, decide_eq_true_eq] at h; simp only [List.length_cons]; omega
theorem idsR_len {l : List By} (h : idsR l = true) : l.length ≤ 64 ∧ ∀ s ∈ l, s.length = 16 := by
 simp only [idsR, Bool.and_eq_true, decide_eq_true_eq, List.all_eq_true] at h
 exact ⟨h.1.1, fun s hs => idR_len (h.1.2 s hs)⟩
theorem sealedSc_len {sc : Int} {g : By} (h : sealedSc sc g = true) : g.length ≤ 24 ∧ 1 ≤ sc ∧ sc ≤ 3 := by
 unfold sealedSc at h
 split at h
 ·exact ⟨nameR_len h, by omega, by omega⟩
 ·split at h
  ·have h := of_decide_eq_true h; subst h; exact ⟨by simp, by omega, by omega⟩
  ·cases h
theorem sealedB_len {b : Box} (h : sealedB b = true) : b.nonce.length = 32 ∧ b.tag.length = 16 ∧ b.data.length ≤ 500 := by
 simp only [sealedB, short, Bool.and_eq_true, decide_eq_true_eq] at h
 exact ⟨h.1.1, h.1.2, h.2⟩
structure Sm (a : Act) : Prop where
 author : a.author.length ≤ 16
 seq : 0 ≤ a.seq ∧ a.seq ≤ 1073741824
 prev : a.prev.length ≤ 32
 kind : 0 ≤ a.kind ∧ a.kind ≤ 23
 time : 0 ≤ a.time ∧ a.time ≤ 1099511627776
 object : a.object.length ≤ 32
 target : a.target.length ≤ 16
 scope : 0 ≤ a.scope ∧ a.scope ≤ 3
 group : a.group.length ≤ 24
 to : a.to.length ≤ 64 ∧ ∀ s ∈ a.to, s.length = 16
 text : a.text.length ≤ 500
 body : a.body.nonce.length ≤ 32 ∧ a.body.data.length ≤ 500 ∧ a.body.tag.length ≤ 16
 epoch : 0 ≤ a.epoch ∧ a.epoch ≤ 1073741824
 wraps : a.wraps.length ≤ 64 ∧ ∀ w ∈ a.wraps, wrapR w = true
 n : 0 ≤ a.n ∧ a.n ≤ 2305843009213693950
 m : 0 ≤ a.m ∧ a.m ≤ 2305843009213693950
 sig : sigR a.sig = true
theorem dig_len {s : By} (h : dig s = true) : s.length ≤ 32 := by have := of_decide_eq_true h; omega
theorem short_len {s : By} (h : short s = true) : s.length ≤ 500 := of_decide_eq_true h
theorem wrapped_sm {a : Act} (h : wrapped a = true) (ht : a.to.length ≤ 64) : a.wraps.length ≤ 64 ∧ ∀ w ∈ a.wraps, wrapR w = true := by
 simp only [wrapped, Bool.and_eq_true, decide_eq_true_eq, List.all_eq_true] at h
 exact ⟨by omega, h.1⟩
structure Aud (a : Act) : Prop where
 scope : 0 ≤ a.scope ∧ a.scope ≤ 3
 group : a.group.length ≤ 24
 to : a.to.length ≤ 64 ∧ ∀ s ∈ a.to, s.length = 16
 text : a.text.length ≤ 500
 body : a.body.nonce.length ≤ 32 ∧ a.body.data.length ≤ 500 ∧ a.body.tag.length ≤ 16
 epoch : 0 ≤ a.epoch ∧ a.epoch ≤ 1073741824
theorem audience_sm {a : Act} (h : audience a = true) : Aud a := by
 unfold audience at h
 rw [Bool.and_eq_true] at h
 obtain ⟨h1, h2⟩ := h
 have h1 := idsR_len h1
 split at h2
 ·rename_i h0
  simp only [Bool.and_eq_true, decide_eq_true_eq] at h2
  obtain ⟨⟨⟨a1, a2⟩, a3⟩, a4⟩ := h2
  exact ⟨by omega, by rw [a1]; simp, h1, short_len a3, by rw [a4]; simp [box0], by omega⟩
 ·simp only [Bool.and_eq_true, decide_eq_true_eq, wi_iff] at h2
  obtain ⟨⟨⟨⟨_, a1⟩, a2⟩, a3⟩, a4⟩ := h2
  have b1 := sealedSc_len a1
  have b4 := sealedB_len a4
  exact ⟨by omega, b1.1, h1, by rw [a3]; simp, by omega, a2⟩
theorem right_sm {a : Act} (h : right a = true) : Sm a := by
 obtain ⟨h1, h2, h3, h4, r, h5, h6, h7⟩ := right_iff.1 h
 have k := rule_range h5
 have hp : a.prev.length ≤ 32 ∧ 0 ≤ a.seq ∧ a.seq ≤ 1073741824 := by
  unfold placed at h2
  split at h2
  ·simp only [Bool.and_eq_true, decide_eq_true_eq] at h2; rw [h2.2]; simp; omega
  ·simp only [Bool.and_eq_true, decide_eq_true_eq, wi_iff] at h2; have := dig_len h2.2; omega
 have h1 := idR_len h1
 rw [wi_iff] at h3
 clear h2
 cases r <;> simp only [out, outB, Bool.and_eq_true, decide_eq_true_eq] at h6 <;> simp only [Ru.ok, Bool.and_eq_true] at h7
 case begin =>
  obtain ⟨⟨⟨⟨⟨⟨⟨a1, a2⟩, a3⟩, a4⟩, a5⟩, a6⟩, a7⟩, a8⟩ := h6
  obtain ⟨b1, b2⟩ := h7
  simp only [home, pub, Bool.and_eq_true, wi_iff] at b2
  have := nameR_len b1
  exact ⟨by omega, hp.2, hp.1, k, h3, by simp [a1], by simp [a2], by omega, by simp [a4], by simp [a5], by omega, by simp [a6, box0], by omega, by simp [a8], by omega, by omega, h4⟩
 case post =>
  obtain ⟨⟨⟨⟨a1, a2⟩, a3⟩, a4⟩, a5⟩ := h6
  have c := audience_sm h7
  exact ⟨by omega, hp.2, hp.1, k, h3, by simp [a1], by simp [a2], c.scope, c.group, c.to, c.text, c.body, c.epoch, by simp [a3], by omega, by omega, h4⟩
 case reply =>
  obtain ⟨⟨⟨a2, a3⟩, a4⟩, a5⟩ := h6
  have c := audience_sm h7.2
  exact ⟨by omega, hp.2, hp.1, k, h3, dig_len h7.1, by simp [a2], c.scope, c.group, c.to, c.text, c.body, c.epoch, by simp [a3], by omega, by omega, h4⟩
 case about =>
  obtain ⟨⟨⟨⟨⟨⟨⟨⟨⟨a1, a2⟩, a3⟩, a4⟩, a5⟩, a6⟩, a7⟩, a8⟩, a9⟩, a10⟩ := h6
  exact ⟨by omega, hp.2, hp.1, k, h3, dig_len h7, by simp [a1], by omega, by simp [a3], by simp [a4], by simp [a5], by simp [a6, box0], by omega, by simp [a8], by omega, by omega, h4⟩
 case tie =>
  obtain ⟨⟨⟨⟨⟨⟨⟨⟨⟨a1, a2⟩, a3⟩, a4⟩, a5⟩, a6⟩, a7⟩, a8⟩, a9⟩, a10⟩ := h6
  have := idR_len h7
  exact ⟨by omega, hp.2, hp.1, k, h3, by simp [a1], by omega, by omega, by simp [a3], by simp [a4], by simp [a5], by simp [a6, box0], by omega, by simp [a8], by omega, by omega, h4⟩
 case reason =>
  obtain ⟨⟨⟨⟨⟨⟨⟨⟨a1, a2⟩, a3⟩, a4⟩, a6⟩, a7⟩, a8⟩, a9⟩, a10⟩ := h6
  exact ⟨by omega, hp.2, hp.1, k, h3, dig_len h7.1, by simp [a1], by omega, by simp [a3], by simp [a4], short_len h7.2, by simp [a6, box0], by omega, by simp [a8], by omega, by omega, h4⟩
 case circle =>
  obtain ⟨⟨⟨⟨⟨⟨⟨⟨a1, a2⟩, a3⟩, a5⟩, a6⟩, a7⟩, a8⟩, a9⟩, a10⟩ := h6
  have g := nameR_len h7.1
  exact ⟨by omega, hp.2, hp.1, k, h3, by simp [a1], by simp [a2], by omega, g, idsR_len h7.2, by simp [a5], by simp [a6, box0], by omega, by simp [a8], by omega, by omega, h4⟩
 case grant =>
  obtain ⟨⟨⟨⟨⟨a1, a2⟩, a5⟩, a6⟩, a9⟩, a10⟩ := h6
  simp only [grant, Bool.and_eq_true, wi_iff] at h7
  obtain ⟨⟨⟨b1, b2⟩, b3⟩, b4⟩ := h7
  have c1 := sealedSc_len b1
  have c3 := idsR_len b3
  exact ⟨by omega, hp.2, hp.1, k, h3, by simp [a1], by simp [a2], by omega, c1.1, c3, by simp [a5], by simp [a6, box0], b2, wrapped_sm b4 c3.1, by omega, by omega, h4⟩
 case label =>
  obtain ⟨⟨⟨⟨⟨⟨⟨a3, a4⟩, a5⟩, a6⟩, a7⟩, a8⟩, a9⟩, a10⟩ := h6
  simp only [label, Bool.and_eq_true, Bool.or_eq_true, decide_eq_true_eq] at h7
  have b1 := nameR_len h7.1
  have b2 : a.object.length ≤ 32 ∧ a.target.length ≤ 16 := by
   rcases h7.2 with ⟨x, y⟩ | ⟨x, y⟩
   ·exact ⟨dig_len x, by simp [y]⟩
   ·exact ⟨by simp [y], by have := idR_len x; omega⟩
  exact ⟨by omega, hp.2, hp.1, k, h3, b2.1, b2.2, by omega, by simp [a4], by simp [a5], by omega, by simp [a6, box0], by omega, by simp [a8], by omega, by omega, h4⟩
 case move =>
  obtain ⟨⟨⟨⟨⟨⟨⟨⟨a1, a2⟩, a3⟩, a4⟩, a5⟩, a6⟩, a7⟩, a8⟩, a9⟩ := h6
  simp only [home, pub, Bool.and_eq_true, wi_iff] at h7
  exact ⟨by omega, hp.2, hp.1, k, h3, by simp [a1], by simp [a2], by omega, by simp [a4], by simp [a5], by simp [a6], by simp [a7, box0], by omega, by simp [a9], by omega, by omega, h4⟩
 case setup =>
  obtain ⟨⟨⟨⟨⟨⟨a1, a2⟩, a3⟩, a4⟩, a6⟩, a7⟩, a8⟩ := h6
  simp only [setup, pub, Bool.and_eq_true, wi_iff, decide_eq_true_eq] at h7
  obtain ⟨⟨⟨⟨b0, b1⟩, b2⟩, b3⟩, b4⟩ := h7
  have c1 := idsR_len b1
  exact ⟨by omega, hp.2, hp.1, k, h3, by simp [a1], by simp [a2], by omega, by simp [a4], c1, by simp [a6], by simp [a7, box0], by omega, wrapped_sm b2 c1.1, by omega, by omega, h4⟩
 case judge =>
  obtain ⟨⟨⟨⟨⟨⟨⟨⟨a1, a2⟩, a3⟩, a4⟩, a5⟩, a6⟩, a7⟩, a8⟩, a10⟩ := h6
  rw [wi_iff] at h7
  exact ⟨by omega, hp.2, hp.1, k, h3, dig_len h7.1, by simp [a1], by omega, by simp [a3], by simp [a4], by simp [a5], by simp [a6, box0], by omega, by simp [a8], by omega, by omega, h4⟩
 case list =>
  obtain ⟨⟨⟨⟨⟨⟨⟨a1, a2⟩, a3⟩, a4⟩, a6⟩, a7⟩, a8⟩, a10⟩ := h6
  simp only [Bool.and_eq_true, wi_iff] at h7
  obtain ⟨⟨b1, b2⟩, b3⟩ := h7
  have := idR_len b1
  exact ⟨by omega, hp.2, hp.1, k, h3, by simp [a1], by omega, by omega, by simp [a3], by simp [a4], short_len b2, by simp [a6, box0], by omega, by simp [a8], by omega, by omega, h4⟩
theorem rNum_back (n : Int) (rest : By) (h0 : 0 ≤ n) (h : n < 9223372036854775808) : rNum ⟨numI n ++ rest, false⟩ = (n, ⟨rest, false⟩) := by
 unfold rNum
 rw [numI_back n rest false h0 h]
 simp only [Prod.mk.injEq, and_true]
 omega
theorem rBox_back (b : Box) (rest : By) (h : b.nonce.length < 2 ^ 63 ∧ b.data.length < 2 ^ 63 ∧ b.tag.length < 2 ^ 63) : rBox ⟨boxB b ++ rest, false⟩ = (b, ⟨rest, false⟩) := by
 unfold rBox boxB
 simp only [List.append_assoc]
 rw [text_back _ _ h.1]
 simp only
 rw [text_back _ _ h.2.1]
 simp only
 rw [text_back _ _ h.2.2]
theorem rWrap_back (w : Wrap) (rest : By) (h : wrapR w = true) : rWrap ⟨wrapB w ++ rest, false⟩ = (w, ⟨rest, false⟩) := by
 simp only [wrapR, pub, Bool.and_eq_true, wi_iff] at h
 have hb := sealedB_len h.2
 unfold rWrap wrapB
 simp only [List.append_assoc]
 rw [rNum_back _ _ (by omega) (by omega)]
 simp only
 rw [rNum_back _ _ (by omega) (by omega)]
 simp only
 rw [rBox_back _ _ (by omega)]
theorem rWrapsN_back : ∀ (l : List Wrap) (rest : By), rest ≠ [] → (∀ w ∈ l, wrapR w = true) → rWrapsN l.length ⟨(l.map wrapB).flatten ++ rest, false⟩ = (some l, ⟨rest, false⟩)
 | [], rest, _, _ => rfl
 | w :: l, rest, hr, h => by
  rw [List.length_cons, List.map_cons, List.flatten_cons, List.append_assoc]
  unfold rWrapsN
  rw [rWrap_back w _ (h w (by simp))]
  simp only
  rw [if_neg (by simp [hr]), rWrapsN_back l rest hr fun x hx => h x (by simp [hx])]
  rfl
theorem rWraps_back (l : List Wrap) (rest : By) (hl : l.length < 2 ^ 63) (hr : rest ≠ []) (h : ∀ w ∈ l, wrapR w = true) : rWraps ⟨num l.length ++ ((l.map wrapB).flatten ++ rest), false⟩ = (l, ⟨rest, false⟩) := by
 unfold rWraps
 rw [num_back _ _ _ hl]
 simp only
 rw [rWrapsN_back l rest hr h]
 rfl
def tailB (a : Act) (rest : By) : By :=
 text a.author ++ (numI a.seq ++ (text a.prev ++ (numI a.kind ++ (numI a.time ++ (text a.object ++ (text a.target ++ (numI a.scope ++ (text a.group ++ (list a.to ++ (text a.text ++ (boxB a.body ++ (numI a.epoch ++ (num a.wraps.length ++ ((a.wraps.map wrapB).flatten ++ (numI a.n ++ (numI a.m ++ (numI a.sig.e ++ (numI a.sig.s ++ rest))))))))))))))))))
theorem coreB_tail (a : Act) (rest : By) : coreB a ++ numI a.sig.e ++ numI a.sig.s ++ rest = text wAct ++ tailB a rest := by
 unfold coreB tailB
 simp only [List.append_assoc]
theorem numI_ne {n : Int} (h : 0 ≤ n) : numI n ≠ [] := by
 unfold numI
 rw [if_neg (by omega)]
 intro e
 have := num_len n.toNat
 rw [e] at this
 simp at this
theorem rAct_back {a : Act} (h : Sm a) (rest : By) : rAct ⟨tailB a rest, false⟩ = (a, ⟨rest, false⟩) := by
 have hs := h.sig
 simp only [sigR, Bool.and_eq_true, wi_iff] at hs
 have h1 := h.author; have h2 := h.seq; have h3 := h.prev; have h4 := h.kind; have h5 := h.time; have h6 := h.object; have h7 := h.target; have h8 := h.scope; have h9 := h.group
 have h10 := h.to; have h11 := h.text; have h12 := h.body; have h13 := h.epoch; have h14 := h.wraps; have h15 := h.n; have h16 := h.m
 unfold rAct tailB
 simp only
 rw [text_back _ _ (by omega)]; simp only
 rw [rNum_back _ _ (by omega) (by omega)]; simp only
 rw [text_back _ _ (by omega)]; simp only
 rw [rNum_back _ _ (by omega) (by omega)]; simp only
 rw [rNum_back _ _ (by omega) (by omega)]; simp only
 rw [text_back _ _ (by omega)]; simp only
 rw [text_back _ _ (by omega)]; simp only
 rw [rNum_back _ _ (by omega) (by omega)]; simp only
 rw [text_back _ _ (by omega)]; simp only
 rw [list_back _ _ (by omega) (fun s hs => by have := h10.2 s hs; omega)]; simp only
 rw [text_back _ _ (by omega)]; simp only
 rw [rBox_back _ _ (by omega)]; simp only
 rw [rNum_back _ _ (by omega) (by omega)]; simp only
 rw [rWraps_back _ _ (by omega) (fun e => absurd (List.append_eq_nil_iff.1 e).1 (numI_ne h15.1)) h14.2]; simp only
 rw [rNum_back _ _ (by omega) (by omega)]; simp only
 rw [rNum_back _ _ (by omega) (by omega)]; simp only
 rw [rNum_back _ _ (by omega) (by omega)]; simp only
 rw [rNum_back _ _ (by omega) (by omega)]
theorem bytes_right {a : Act} (h : right a = true) : bytes a = text wAct ++ tailB a [] := by
 unfold bytes
 rw [if_pos h, ← coreB_tail, List.append_nil]
theorem text_wAct (rest : By) : R.text ⟨text wAct ++ rest, false⟩ = (wAct, ⟨rest, false⟩) := text_back _ _ (by simp)
theorem bytes_ne {a : Act} (h : right a = true) : bytes a ≠ [] := by
 rw [bytes_right h]
 simp [text, num_small]
theorem bytes_wrong {a : Act} (h : right a = false) : bytes a = [] ∧ core a = [] := by
 unfold bytes core
 simp [h]
theorem core_ne {a : Act} (h : right a = true) : core a ≠ [] := by
 unfold core coreB
 rw [if_pos h]
 simp [text, num_small]
theorem bytes_core (a : Act) : bytes a = if core a = [] then [] else core a ++ numI a.sig.e ++ numI a.sig.s := by
 cases h : right a with
 | false => rw [(bytes_wrong h).1, (bytes_wrong h).2]; rfl
 | true =>
  rw [if_neg (core_ne h)]
  unfold bytes core
  rw [if_pos h, if_pos h]
theorem tail_rest (a : Act) (rest : By) : tailB a rest = tailB a [] ++ rest := by
 unfold tailB
 simp only [List.append_assoc, List.append_nil, List.nil_append]
theorem read_bytes {a : Act} (h : right a = true) : read (bytes a) = (a, true) := by
 unfold read
 have hb := bytes_right h
 simp only
 rw [hb, text_wAct]
 simp only
 rw [rAct_back (right_sm h)]
 exact if_pos ⟨by trivial, rfl, hb⟩
theorem read_right {s : By} (h : (read s).2 = true) : right (read s).1 = true ∧ bytes (read s).1 = s := by
 unfold read at h ⊢
 simp only at h ⊢
 split at h
 ·rename_i hc
  rw [if_pos hc]
  refine ⟨?_, hc.2.2⟩
  refine Classical.byContradiction fun hn => ?_
  have hn : right (rAct (R.text ⟨s, false⟩).2).1 = false := by simpa using hn
  have h1 := hc.2.2
  rw [(bytes_wrong hn).1] at h1
  subst h1
  exact absurd hc.1 (by decide)
 ·cases h
theorem read_wrong {s : By} (h : (read s).2 = false) : (read s).1 = act0 := by
 unfold read at h ⊢
 simp only at h ⊢
 split at h
 ·cases h
 ·rename_i hc
  rw [if_neg hc]
theorem bytes_prefix {a b : Act} {r : By} (ha : right a = true) (hb : right b = true) (h : bytes a = bytes b ++ r) : r = [] ∧ a = b := by
 rw [bytes_right ha, bytes_right hb, List.append_assoc, ← tail_rest] at h
 have h := List.append_cancel_left h
 have h1 := rAct_back (right_sm ha) []
 have h2 := rAct_back (right_sm hb) r
 rw [h, h2] at h1
 injection h1 with e1 e2
 injection e2 with e3
 exact ⟨e3, e1.symm⟩
theorem bytes_inj {a b : Act} (ha : right a = true) (hb : right b = true) (h : bytes a = bytes b) : a = b := (bytes_prefix (r := []) ha hb (by rw [List.append_nil]; exact h)).2
theorem read_more {a : Act} {r : By} (ha : right a = true) (hr : r ≠ []) : (read (bytes a ++ r)).2 = false := by
 cases h : (read (bytes a ++ r)).2 with
 | false => rfl
 | true =>
  obtain ⟨h1, h2⟩ := read_right h
  exact absurd (bytes_prefix h1 ha h2).1 hr
theorem read_less {a : Act} {s r : By} (ha : right a = true) (hr : r ≠ []) (e : bytes a = s ++ r) : (read s).2 = false := by
 cases h : (read s).2 with
 | false => rfl
 | true =>
  obtain ⟨h1, h2⟩ := read_right h
  rw [← h2] at e
  exact absurd (bytes_prefix ha h1 e).1 hr
theorem right_sig (a : Act) (s : Sig) (hs : sigR s = true) (h : right a = true) : right { a with sig := s } = true := by
 obtain ⟨h1, h2, h3, h4, r, h5, h6, h7⟩ := right_iff.1 h
 refine right_iff.2 ⟨h1, h2, h3, hs, r, h5, h6, ?_⟩
 cases r <;> exact h7
theorem core_sig (a : Act) (s : Sig) : coreB { a with sig := s } = coreB a := rfl
theorem core_inj {a b : Act} (ha : right a = true) (hb : right b = true) (h : core a = core b) : a = { b with sig := a.sig } := by
 unfold core at h
 rw [if_pos ha, if_pos hb] at h
 have hr : right { b with sig := a.sig } = true := right_sig b a.sig (right_sm ha).sig hb
 refine bytes_inj ha hr ?_
 unfold bytes
 rw [if_pos ha, if_pos hr, h]
 rfl
theorem sign_right {a : Act} {k : Key} (h : right { a with sig := sig0 } = true) (hk : k.right = true) : signA k a = { a with sig := sign k (core { a with sig := sig0 }) } ∧ right (signA k a) = true ∧ core (signA k a) = core { a with sig := sig0 } := by
 have e : signA k a = { a with sig := sign k (core { a with sig := sig0 }) } := by
  unfold signA
  simp only
  rw [h, hk]
  rfl
 have hr := sign_range k (core { a with sig := sig0 })
 have hs : sigR (sign k (core { a with sig := sig0 })) = true := by
  simp only [sigR, Bool.and_eq_true, wi_iff]
  omega
 have hr : right (signA k a) = true := by
  rw [e]
  exact right_sig { a with sig := sig0 } _ hs h
 refine ⟨e, hr, ?_⟩
 unfold core
 rw [if_pos hr, if_pos h, e]
 rfl
theorem sign_verify {a : Act} {k : Key} (h : right { a with sig := sig0 } = true) (hk : k.right = true) : verifyA k.pub (signA k a) = true := by
 obtain ⟨e, hr, hc⟩ := sign_right h hk
 unfold verifyA
 rw [hr, hc, e]
 simp only [Bool.true_and]
 exact verify_sign hk _
theorem sign_wrong {a : Act} {k : Key} (h : ¬ (right { a with sig := sig0 } = true ∧ k.right = true)) : signA k a = act0 := by
 unfold signA
 simp only
 rw [if_neg (by simpa using h)]
end Go.Proofs.YtaphpbiaoofmkaaGreatDoor.Ac
