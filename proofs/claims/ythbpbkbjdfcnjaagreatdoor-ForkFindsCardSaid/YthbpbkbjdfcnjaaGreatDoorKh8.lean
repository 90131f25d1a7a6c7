/- Several texts in one, without what this claim does not use (tools/shake.py). -/
import Derived.Test.YthbpbkbjdfcnjaaGreatDoorKh1
import Derived.Test.YthbpbkbjdfcnjaaGreatDoorKh2
import Derived.Test.YthbpbkbjdfcnjaaGreatDoorKh3
import Derived.Test.YthbpbkbjdfcnjaaGreatDoorKh4
import Derived.Test.YthbpbkbjdfcnjaaGreatDoorKh5
import Derived.Test.YthbpbkbjdfcnjaaGreatDoorKh6
import Derived.Test.YthbpbkbjdfcnjaaGreatDoorKh7
import Derived.Lib.DecodeN
import Derived.Test.YthbpbkbjdfcnjaaGreatDoorChecked
import Derived.WalkKit
import Derived.ProofKit
import Derived.WalkSpells
import Derived.Lib.Hide
import Derived.WalkLawsBesides
import Derived.BigRegion
import Derived.RegionTactic
import Derived.BigQuiet
import Derived.Deep.RegionLaw
set_option linter.unusedSectionVars false
set_option linter.unusedVariables false
set_option linter.unusedSimpArgs false
section
namespace Go.Proofs.YthbpbkbjdfcnjaaGreatDoor.Ac
open Go Co Sg
def hexc (b : UInt8) : Bool := (decide (48 ≤ b.toNat) && decide (b.toNat ≤ 57)) || (decide (97 ≤ b.toNat) && decide (b.toNat ≤ 102))
def idR (s : By) : Bool := decide (s.length = 16) && s.all hexc
def letter (b : UInt8) : Bool := decide (97 ≤ b.toNat) && decide (b.toNat ≤ 122)
def namec (b : UInt8) : Bool := letter b || (decide (48 ≤ b.toNat) && decide (b.toNat ≤ 57)) || decide (b.toNat = 95)
def nameR : By → Bool
 | [] => false
 | c :: r => decide (r.length ≤ 23) && letter c && r.all namec
def asc : List By → Bool
 | a :: b :: r => !(Op.bytesLess b a || b == a) && asc (b :: r)
 | _ => true
def idsR (l : List By) : Bool := decide (l.length ≤ 64) && l.all idR && asc l
structure Box where
 nonce : By
 data : By
 tag : By
 deriving DecidableEq
structure Wrap where
 to : Int
 eph : Int
 box : Box
 deriving DecidableEq
structure Act where
 author : By
 seq : Int
 prev : By
 kind : Int
 time : Int
 object : By
 target : By
 scope : Int
 group : By
 to : List By
 text : By
 body : Box
 epoch : Int
 wraps : List Wrap
 n : Int
 m : Int
 sig : Sig
 deriving DecidableEq
def box0 : Box := ⟨[], [], []⟩
def sig0 : Sig := ⟨0, 0⟩
def act0 : Act := ⟨[], 0, [], 0, 0, [], [], 0, [], [], [], box0, 0, [], 0, 0, sig0⟩
def wi (n lo hi : Int) : Bool := decide (lo ≤ n) && decide (n ≤ hi)
theorem wi_iff {n lo hi : Int} : wi n lo hi = true ↔ lo ≤ n ∧ n ≤ hi := by simp [wi]
def dig (s : By) : Bool := decide (s.length = 32)
def short (s : By) : Bool := decide (s.length ≤ 500)
def pub (n : Int) : Bool := wi n 1 2305843009213693950
def sealedB (b : Box) : Bool := decide (b.nonce.length = 32) && decide (b.tag.length = 16) && short b.data
def wrapR (w : Wrap) : Bool := pub w.to && pub w.eph && sealedB w.box
def wrapped (a : Act) : Bool := a.wraps.all wrapR && decide (a.wraps.length = a.to.length)
def sealedSc (scope : Int) (group : By) : Bool := if scope = 2 then nameR group else if scope = 1 ∨ scope = 3 then decide (group = []) else false
def audience (a : Act) : Bool :=
 idsR a.to && (if a.scope = 0 then decide (a.group = []) && decide (a.epoch = 0) && short a.text && decide (a.body = box0)
  else (decide (a.to = []) || decide (a.scope = 3)) && sealedSc a.scope a.group && wi a.epoch 0 1073741824 && decide (a.text = []) && sealedB a.body)
def home (a : Act) : Bool := pub a.n && wi a.m 0 19
def grant (a : Act) : Bool := sealedSc a.scope a.group && wi a.epoch 0 1073741824 && idsR a.to && wrapped a
def label (a : Act) : Bool := nameR a.text && ((dig a.object && decide (a.target = [])) || (idR a.target && decide (a.object = [])))
def setup (a : Act) : Bool := decide (0 < a.to.length) && idsR a.to && wrapped a && wi a.n 1 a.to.length && pub a.m
def note (z : Bool) (f s : Int) : Int := if z then s else Go.bits .or .i64 s f
def used (a : Act) : Int :=
 note (decide (a.m = 0)) 1024 <| note (decide (a.n = 0)) 512 <| note (decide (a.wraps = [])) 256 <| note (decide (a.epoch = 0)) 128 <| note (decide (a.body = box0)) 64 <|
 note (decide (a.text = [])) 32 <| note (decide (a.to = [])) 16 <| note (decide (a.group = [])) 8 <| note (decide (a.scope = 0)) 4 <| note (decide (a.target = [])) 2 <| note (decide (a.object = [])) 1 0
inductive Ru where
 | begin | post | reply | about | tie | reason | circle | grant | label | move | setup | judge | list
 deriving DecidableEq
def Ru.mask : Ru → Int
 | .begin => 1568
 | .post => 252
 | .reply => 253
 | .about => 1
 | .tie => 2
 | .reason => 33
 | .circle => 24
 | .grant => 412
 | .label => 35
 | .move => 1536
 | .setup => 1808
 | .judge => 513
 | .list => 546
def Ru.ok (a : Act) : Ru → Bool
 | .begin => nameR a.text && home a
 | .post => audience a
 | .reply => dig a.object && audience a
 | .about => dig a.object
 | .tie => idR a.target
 | .reason => dig a.object && short a.text
 | .circle => nameR a.group && idsR a.to
 | .grant => Ac.grant a
 | .label => Ac.label a
 | .move => home a
 | .setup => Ac.setup a
 | .judge => dig a.object && wi a.n 0 1
 | .list => idR a.target && short a.text && wi a.n 0 1099511627776
def ruleL : List (Int × Ru) := [(0, .begin), (1, .post), (2, .reply), (3, .reply), (14, .reply), (4, .about), (5, .about), (6, .about), (13, .about), (20, .about), (7, .tie), (8, .tie), (9, .tie), (10, .tie), (11, .tie), (12, .reason), (21, .reason), (15, .circle), (16, .grant), (17, .label), (18, .move), (19, .setup), (22, .judge), (23, .list)]
def rule (k : Int) : Option Ru := ruleL.lookup k
def placed (a : Act) : Bool := if a.seq = 0 then decide (a.kind = 0) && decide (a.prev = []) else wi a.seq 1 1073741824 && decide (a.kind ≠ 0) && dig a.prev
def sigR (s : Sig) : Bool := wi s.e 0 2305843009213693949 && wi s.s 0 2305843009213693949
def right (a : Act) : Bool := idR a.author && placed a && wi a.time 0 1099511627776 && sigR a.sig &&
 (match rule a.kind with
 | none => false
 | some r => decide (Go.bits .andNot .i64 (used a) r.mask = 0) && r.ok a)
def boxB (b : Box) : By := text b.nonce ++ text b.data ++ text b.tag
def wrapB (w : Wrap) : By := numI w.to ++ numI w.eph ++ boxB w.box
abbrev wAct : By := [97, 99, 116]
def coreB (a : Act) : By :=
 text wAct ++ text a.author ++ numI a.seq ++ text a.prev ++ numI a.kind ++ numI a.time ++ text a.object ++ text a.target ++ numI a.scope ++ text a.group ++ list a.to ++ text a.text ++ boxB a.body ++ numI a.epoch ++ num a.wraps.length ++ (a.wraps.map wrapB).flatten ++ numI a.n ++ numI a.m
def core (a : Act) : By := if right a then coreB a else []
def bytes (a : Act) : By := if right a then coreB a ++ numI a.sig.e ++ numI a.sig.s else []
def rBox (x : R) : Box × R := (⟨x.text.1, x.text.2.text.1, x.text.2.text.2.text.1⟩, x.text.2.text.2.text.2)
def rNum (x : R) : Int × R := ((x.num.1 : Int), x.num.2)
def rWrap (x : R) : Wrap × R :=
 let a := rNum x
 let b := rNum a.2
 let c := rBox b.2
 (⟨a.1, b.1, c.1⟩, c.2)
def rWrapsN : Nat → R → Option (List Wrap) × R
 | 0, x => (some [], x)
 | n + 1, x => if (rWrap x).2.rest = [] then (none, (rWrap x).2) else ((rWrapsN n (rWrap x).2).1.map ((rWrap x).1 :: ·), (rWrapsN n (rWrap x).2).2)
def rWraps (x : R) : List Wrap × R := ((rWrapsN x.num.1 x.num.2).1.getD [], (rWrapsN x.num.1 x.num.2).2)
def rAct (x : R) : Act × R :=
 let author := x.text
 let seq := rNum author.2
 let prev := seq.2.text
 let kind := rNum prev.2
 let time := rNum kind.2
 let object := time.2.text
 let target := object.2.text
 let scope := rNum target.2
 let group := scope.2.text
 let to := group.2.list
 let text := to.2.text
 let body := rBox text.2
 let epoch := rNum body.2
 let wraps := rWraps epoch.2
 let n := rNum wraps.2
 let m := rNum n.2
 let e := rNum m.2
 let s := rNum e.2
 (⟨author.1, seq.1, prev.1, kind.1, time.1, object.1, target.1, scope.1, group.1, to.1, text.1, body.1, epoch.1, wraps.1, n.1, m.1, ⟨e.1, s.1⟩⟩, s.2)
def _root_.Go.Proofs.YthbpbkbjdfcnjaaGreatDoor.Co.R.done (x : R) : Bool := !x.bad && x.rest == []
def read (s : By) : Act × Bool :=
 let x : R := ⟨s, false⟩
 if x.text.1 = wAct ∧ (rAct x.text.2).2.done = true ∧ bytes (rAct x.text.2).1 = s then ((rAct x.text.2).1, true) else (act0, false)
def same (a b : Act) : Bool := decide (a = b)
end Go.Proofs.YthbpbkbjdfcnjaaGreatDoor.Ac
namespace Go.Proofs.YthbpbkbjdfcnjaaGreatDoor.Ac
open Go Co Sg
def usedB (o t s g l x b e w n m : Bool) : Int :=
 note m 1024 <| note n 512 <| note w 256 <| note e 128 <| note b 64 <| note x 32 <| note l 16 <| note g 8 <| note s 4 <| note t 2 <| note o 1 0
def outB (o t s g l x b e w n m : Bool) : Ru → Bool
 | .begin => o && t && s && g && l && b && e && w
 | .post => o && t && w && n && m
 | .reply => t && w && n && m
 | .about => t && s && g && l && x && b && e && w && n && m
 | .tie => o && s && g && l && x && b && e && w && n && m
 | .reason => t && s && g && l && b && e && w && n && m
 | .circle => o && t && s && x && b && e && w && n && m
 | .grant => o && t && x && b && n && m
 | .label => s && g && l && b && e && w && n && m
 | .move => o && t && s && g && l && x && b && e && w
 | .setup => o && t && s && g && x && b && e
 | .judge => t && s && g && l && x && b && e && w && m
 | .list => o && s && g && l && b && e && w && m
theorem mask_eq (r : Ru) : ∀ o t s g l x b e w n m : Bool, decide (Go.bits .andNot .i64 (usedB o t s g l x b e w n m) r.mask = 0) = outB o t s g l x b e w n m r := by
 cases r <;> decide +kernel
def out (a : Act) (r : Ru) : Bool := outB (decide (a.object = [])) (decide (a.target = [])) (decide (a.scope = 0)) (decide (a.group = [])) (decide (a.to = [])) (decide (a.text = [])) (decide (a.body = box0)) (decide (a.epoch = 0)) (decide (a.wraps = [])) (decide (a.n = 0)) (decide (a.m = 0)) r
theorem right_iff {a : Act} : right a = true ↔ idR a.author = true ∧ placed a = true ∧ wi a.time 0 1099511627776 = true ∧ sigR a.sig = true ∧ ∃ r, rule a.kind = some r ∧ out a r = true ∧ r.ok a = true := by
 unfold right
 cases h : rule a.kind with
 | none => simp
 | some r =>
  have e : decide (Go.bits .andNot .i64 (used a) r.mask = 0) = out a r := mask_eq r _ _ _ _ _ _ _ _ _ _ _
  simp only [e, Bool.and_eq_true, and_assoc, Option.some.injEq, exists_eq_left']
theorem rule_mem {k : Int} {r : Ru} (h : rule k = some r) : (k, r) ∈ ruleL := by
 unfold rule at h
 generalize ruleL = l at h ⊢
 induction l with
 | nil => cases h
 | cons p l ih =>
  obtain ⟨j, s⟩ := p
  rw [List.lookup_cons] at h
  by_cases e : k = j
  ·subst e
   simp at h
   subst h
   simp
  ·rw [show (k == j) = false by simpa using e] at h
   exact List.mem_cons_of_mem _ (ih h)
theorem rule_range {k : Int} {r : Ru} (h : rule k = some r) : 0 ≤ k ∧ k ≤ 23 := by
 have := rule_mem h
 simp only [ruleL, List.mem_cons, Prod.mk.injEq, List.not_mem_nil, or_false] at this
 omega
theorem rule_none {k : Int} (h : k < 0 ∨ 23 < k) : rule k = none := by
 cases e : rule k with
 | none => rfl
 | some r => have := rule_range e; omega
theorem idR_len {s : By} (h : idR s = true) : s.length = 16 := by simp only [idR, Bool.and_eq_true, decide_eq_true_eq] at h; exact h.1
theorem nameR_len {s : By} (h : nameR s = true) : s.length ≤ 24 := by
 cases s with
 | nil => cases h
 | cons c r => simp only [nameR, Bool.and_eq_true, decide_eq_true_eq] at h; simp only [List.length_cons]; omega
theorem idsR_len {l : List By} (h : idsR l = true) : l.length ≤ 64 ∧ ∀ s ∈ l, s.length = 16 := by
 simp only [idsR, Bool.and_eq_true, decide_eq_true_eq, List.all_eq_true] at h
 exact ⟨h.1.1, fun s hs => idR_len (h.1.2 s hs)⟩
theorem sealedSc_len {sc : Int} {g : By} (h : sealedSc sc g = true) : g.length ≤ 24 ∧ 1 ≤ sc ∧ sc ≤ 3 := by
 unfold sealedSc at h
 split at h
 ·exact ⟨nameR_len h, by omega, by omega⟩
 ·split at h
  ·have h := of_decide_eq_true h; subst h; exact ⟨by simp, by omega, by omega⟩
  ·cases h
theorem sealedB_len {b : Box} (h : sealedB b = true) : b.nonce.length = 32 ∧ b.tag.length = 16 ∧ b.data.length ≤ 500 := by
 simp only [sealedB, short, Bool.and_eq_true, decide_eq_true_eq] at h
 exact ⟨h.1.1, h.1.2, h.2⟩
structure Sm (a : Act) : Prop where
 author : a.author.length ≤ 16
 seq : 0 ≤ a.seq ∧ a.seq ≤ 1073741824
 prev : a.prev.length ≤ 32
 kind : 0 ≤ a.kind ∧ a.kind ≤ 23
 time : 0 ≤ a.time ∧ a.time ≤ 1099511627776
 object : a.object.length ≤ 32
 target : a.target.length ≤ 16
 scope : 0 ≤ a.scope ∧ a.scope ≤ 3
 group : a.group.length ≤ 24
 to : a.to.length ≤ 64 ∧ ∀ s ∈ a.to, s.length = 16
 text : a.text.length ≤ 500
 body : a.body.nonce.length ≤ 32 ∧ a.body.data.length ≤ 500 ∧ a.body.tag.length ≤ 16
 epoch : 0 ≤ a.epoch ∧ a.epoch ≤ 1073741824
 wraps : a.wraps.length ≤ 64 ∧ ∀ w ∈ a.wraps, wrapR w = true
 n : 0 ≤ a.n ∧ a.n ≤ 2305843009213693950
 m : 0 ≤ a.m ∧ a.m ≤ 2305843009213693950
 sig : sigR a.sig = true
theorem dig_len {s : By} (h : dig s = true) : s.length ≤ 32 := by have := of_decide_eq_true h; omega
theorem short_len {s : By} (h : short s = true) : s.length ≤ 500 := of_decide_eq_true h
theorem wrapped_sm {a : Act} (h : wrapped a = true) (ht : a.to.length ≤ 64) : a.wraps.length ≤ 64 ∧ ∀ w ∈ a.wraps, wrapR w = true := by
 simp only [wrapped, Bool.and_eq_true, decide_eq_true_eq, List.all_eq_true] at h
 exact ⟨by omega, h.1⟩
structure Aud (a : Act) : Prop where
 scope : 0 ≤ a.scope ∧ a.scope ≤ 3
 group : a.group.length ≤ 24
 to : a.to.length ≤ 64 ∧ ∀ s ∈ a.to, s.length = 16
 text : a.text.length ≤ 500
 body : a.body.nonce.length ≤ 32 ∧ a.body.data.length ≤ 500 ∧ a.body.tag.length ≤ 16
 epoch : 0 ≤ a.epoch ∧ a.epoch ≤ 1073741824
theorem audience_sm {a : Act} (h : audience a = true) : Aud a := by
 unfold audience at h
 rw [Bool.and_eq_true] at h
 obtain ⟨h1, h2⟩ := h
 have h1 := idsR_len h1
 split at h2
 ·rename_i h0
  simp only [Bool.and_eq_true, decide_eq_true_eq] at h2
  obtain ⟨⟨⟨a1, a2⟩, a3⟩, a4⟩ := h2
  exact ⟨by omega, by rw [a1]; simp, h1, short_len a3, by rw [a4]; simp [box0], by omega⟩
 ·simp only [Bool.and_eq_true, decide_eq_true_eq, wi_iff] at h2
  obtain ⟨⟨⟨⟨_, a1⟩, a2⟩, a3⟩, a4⟩ := h2
  have b1 := sealedSc_len a1
  have b4 := sealedB_len a4
  exact ⟨by omega, b1.1, h1, by rw [a3]; simp, by omega, a2⟩
theorem right_sm {a : Act} (h : right a = true) : Sm a := by
 obtain ⟨h1, h2, h3, h4, r, h5, h6, h7⟩ := right_iff.1 h
 have k := rule_range h5
 have hp : a.prev.length ≤ 32 ∧ 0 ≤ a.seq ∧ a.seq ≤ 1073741824 := by
  unfold placed at h2
  split at h2
  ·simp only [Bool.and_eq_true, decide_eq_true_eq] at h2; rw [h2.2]; simp; omega
  ·simp only [Bool.and_eq_true, decide_eq_true_eq, wi_iff] at h2; have := dig_len h2.2; omega
 have h1 := idR_len h1
 rw [wi_iff] at h3
 clear h2
 cases r <;> simp only [out, outB, Bool.and_eq_true, decide_eq_true_eq] at h6 <;> simp only [Ru.ok, Bool.and_eq_true] at h7
 case begin =>
  obtain ⟨⟨⟨⟨⟨⟨⟨a1, a2⟩, a3⟩, a4⟩, a5⟩, a6⟩, a7⟩, a8⟩ := h6
  obtain ⟨b1, b2⟩ := h7
  simp only [home, pub, Bool.and_eq_true, wi_iff] at b2
  have := nameR_len b1
  exact ⟨by omega, hp.2, hp.1, k, h3, by simp [a1], by simp [a2], by omega, by simp [a4], by simp [a5], by omega, by simp [a6, box0], by omega, by simp [a8], by omega, by omega, h4⟩
 case post =>
  obtain ⟨⟨⟨⟨a1, a2⟩, a3⟩, a4⟩, a5⟩ := h6
  have c := audience_sm h7
  exact ⟨by omega, hp.2, hp.1, k, h3, by simp [a1], by simp [a2], c.scope, c.group, c.to, c.text, c.body, c.epoch, by simp [a3], by omega, by omega, h4⟩
 case reply =>
  obtain ⟨⟨⟨a2, a3⟩, a4⟩, a5⟩ := h6
  have c := audience_sm h7.2
  exact ⟨by omega, hp.2, hp.1, k, h3, dig_len h7.1, by simp [a2], c.scope, c.group, c.to, c.text, c.body, c.epoch, by simp [a3], by omega, by omega, h4⟩
 case about =>
  obtain ⟨⟨⟨⟨⟨⟨⟨⟨⟨a1, a2⟩, a3⟩, a4⟩, a5⟩, a6⟩, a7⟩, a8⟩, a9⟩, a10⟩ := h6
  exact ⟨by omega, hp.2, hp.1, k, h3, dig_len h7, by simp [a1], by omega, by simp [a3], by simp [a4], by simp [a5], by simp [a6, box0], by omega, by simp [a8], by omega, by omega, h4⟩
 case tie =>
  obtain ⟨⟨⟨⟨⟨⟨⟨⟨⟨a1, a2⟩, a3⟩, a4⟩, a5⟩, a6⟩, a7⟩, a8⟩, a9⟩, a10⟩ := h6
  have := idR_len h7
  exact ⟨by omega, hp.2, hp.1, k, h3, by simp [a1], by omega, by omega, by simp [a3], by simp [a4], by simp [a5], by simp [a6, box0], by omega, by simp [a8], by omega, by omega, h4⟩
 case reason =>
  obtain ⟨⟨⟨⟨⟨⟨⟨⟨a1, a2⟩, a3⟩, a4⟩, a6⟩, a7⟩, a8⟩, a9⟩, a10⟩ := h6
  exact ⟨by omega, hp.2, hp.1, k, h3, dig_len h7.1, by simp [a1], by omega, by simp [a3], by simp [a4], short_len h7.2, by simp [a6, box0], by omega, by simp [a8], by omega, by omega, h4⟩
 case circle =>
  obtain ⟨⟨⟨⟨⟨⟨⟨⟨a1, a2⟩, a3⟩, a5⟩, a6⟩, a7⟩, a8⟩, a9⟩, a10⟩ := h6
  have g := nameR_len h7.1
  exact ⟨by omega, hp.2, hp.1, k, h3, by simp [a1], by simp [a2], by omega, g, idsR_len h7.2, by simp [a5], by simp [a6, box0], by omega, by simp [a8], by omega, by omega, h4⟩
 case grant =>
  obtain ⟨⟨⟨⟨⟨a1, a2⟩, a5⟩, a6⟩, a9⟩, a10⟩ := h6
  simp only [grant, Bool.and_eq_true, wi_iff] at h7
  obtain ⟨⟨⟨b1, b2⟩, b3⟩, b4⟩ := h7
  have c1 := sealedSc_len b1
  have c3 := idsR_len b3
  exact ⟨by omega, hp.2, hp.1, k, h3, by simp [a1], by simp [a2], by omega, c1.1, c3, by simp [a5], by simp [a6, box0], b2, wrapped_sm b4 c3.1, by omega, by omega, h4⟩
 case label =>
  obtain ⟨⟨⟨⟨⟨⟨⟨a3, a4⟩, a5⟩, a6⟩, a7⟩, a8⟩, a9⟩, a10⟩ := h6
  simp only [label, Bool.and_eq_true, Bool.or_eq_true, decide_eq_true_eq] at h7
  have b1 := nameR_len h7.1
  have b2 : a.object.length ≤ 32 ∧ a.target.length ≤ 16 := by
   rcases h7.2 with ⟨x, y⟩ | ⟨x, y⟩
   ·exact ⟨dig_len x, by simp [y]⟩
   ·exact ⟨by simp [y], by have := idR_len x; omega⟩
  exact ⟨by omega, hp.2, hp.1, k, h3, b2.1, b2.2, by omega, by simp [a4], by simp [a5], by omega, by simp [a6, box0], by omega, by simp [a8], by omega, by omega, h4⟩
 case move =>
  obtain ⟨⟨⟨⟨⟨⟨⟨⟨a1, a2⟩, a3⟩, a4⟩, a5⟩, a6⟩, a7⟩, a8⟩, a9⟩ := h6
  simp only [home, pub, Bool.and_eq_true, wi_iff] at h7
  exact ⟨by omega, hp.2, hp.1, k, h3, by simp [a1], by simp [a2], by omega, by simp [a4], by simp [a5], by simp [a6], by simp [a7, box0], by omega, by simp [a9], by omega, by omega, h4⟩
 case setup =>
  obtain ⟨⟨⟨⟨⟨⟨a1, a2⟩, a3⟩, a4⟩, a6⟩, a7⟩, a8⟩ := h6
  simp only [setup, pub, Bool.and_eq_true, wi_iff, decide_eq_true_eq] at h7
  obtain ⟨⟨⟨⟨b0, b1⟩, b2⟩, b3⟩, b4⟩ := h7
  have c1 := idsR_len b1
  exact ⟨by omega, hp.2, hp.1, k, h3, by simp [a1], by simp [a2], by omega, by simp [a4], c1, by simp [a6], by simp [a7, box0], by omega, wrapped_sm b2 c1.1, by omega, by omega, h4⟩
 case judge =>
  obtain ⟨⟨⟨⟨⟨⟨⟨⟨a1, a2⟩, a3⟩, a4⟩, a5⟩, a6⟩, a7⟩, a8⟩, a10⟩ := h6
  rw [wi_iff] at h7
  exact ⟨by omega, hp.2, hp.1, k, h3, dig_len h7.1, by simp [a1], by omega, by simp [a3], by simp [a4], by simp [a5], by simp [a6, box0], by omega, by simp [a8], by omega, by omega, h4⟩
 case list =>
  obtain ⟨⟨⟨⟨⟨⟨⟨a1, a2⟩, a3⟩, a4⟩, a6⟩, a7⟩, a8⟩, a10⟩ := h6
  simp only [Bool.and_eq_true, wi_iff] at h7
  obtain ⟨⟨b1, b2⟩, b3⟩ := h7
  have := idR_len b1
  exact ⟨by omega, hp.2, hp.1, k, h3, by simp [a1], by omega, by omega, by simp [a3], by simp [a4], short_len b2, by simp [a6, box0], by omega, by simp [a8], by omega, by omega, h4⟩
theorem rNum_back (n : Int) (rest : By) (h0 : 0 ≤ n) (h : n < 9223372036854775808) : rNum ⟨numI n ++ rest, false⟩ = (n, ⟨rest, false⟩) := by
 unfold rNum
 rw [numI_back n rest false h0 h]
 simp only [Prod.mk.injEq, and_true]
 omega
def tailB (a : Act) (rest : By) : By :=
 text a.author ++ (numI a.seq ++ (text a.prev ++ (numI a.kind ++ (numI a.time ++ (text a.object ++ (text a.target ++ (numI a.scope ++ (text a.group ++ (list a.to ++ (text a.text ++ (boxB a.body ++ (numI a.epoch ++ (num a.wraps.length ++ ((a.wraps.map wrapB).flatten ++ (numI a.n ++ (numI a.m ++ (numI a.sig.e ++ (numI a.sig.s ++ rest))))))))))))))))))
theorem coreB_tail (a : Act) (rest : By) : coreB a ++ numI a.sig.e ++ numI a.sig.s ++ rest = text wAct ++ tailB a rest := by
 unfold coreB tailB
 simp only [List.append_assoc]
theorem numI_ne {n : Int} (h : 0 ≤ n) : numI n ≠ [] := by
 unfold numI
 rw [if_neg (by omega)]
 intro e
 have := num_len n.toNat
 rw [e] at this
 simp at this
theorem bytes_right {a : Act} (h : right a = true) : bytes a = text wAct ++ tailB a [] := by
 unfold bytes
 rw [if_pos h, ← coreB_tail, List.append_nil]
theorem bytes_ne {a : Act} (h : right a = true) : bytes a ≠ [] := by
 rw [bytes_right h]
 simp [text, num_small]
theorem bytes_wrong {a : Act} (h : right a = false) : bytes a = [] ∧ core a = [] := by
 unfold bytes core
 simp [h]
theorem core_ne {a : Act} (h : right a = true) : core a ≠ [] := by
 unfold core coreB
 rw [if_pos h]
 simp [text, num_small]
theorem bytes_core (a : Act) : bytes a = if core a = [] then [] else core a ++ numI a.sig.e ++ numI a.sig.s := by
 cases h : right a with
 | false => rw [(bytes_wrong h).1, (bytes_wrong h).2]; rfl
 | true =>
  rw [if_neg (core_ne h)]
  unfold bytes core
  rw [if_pos h, if_pos h]
theorem right_sig (a : Act) (s : Sig) (hs : sigR s = true) (h : right a = true) : right { a with sig := s } = true := by
 obtain ⟨h1, h2, h3, h4, r, h5, h6, h7⟩ := right_iff.1 h
 refine right_iff.2 ⟨h1, h2, h3, hs, r, h5, h6, ?_⟩
 cases r <;> exact h7
end Go.Proofs.YthbpbkbjdfcnjaaGreatDoor.Ac
end
section
namespace Go.Proofs.YthbpbkbjdfcnjaaGreatDoor.Pe
open Go Co Ac
variable [Tab]
set_option maxRecDepth 100000
theorem dec_big (n b0 b1 b2 b3 : Nat) (h : 128 ≤ b0) : 128 ≤ (Lib.decodeN n b0 b1 b2 b3).1 := by
 unfold Lib.decodeN
 rw [if_neg (by omega)]
 split
 ·split
  ·assumption
  ·decide
 split
 ·split
  ·rename_i h; exact Nat.le_trans (by decide) h.1
  ·decide
 split
 ·split
  ·rename_i h; exact Nat.le_trans (by decide) h.1
  ·decide
 ·decide
theorem rune_at (l : By) (i : Nat) (h : i < l.length) : ∃ r w, runeAt l i = (r, w) ∧ (l[i].toNat < 128 → r = l[i].toNat ∧ w = 1) ∧ (128 ≤ l[i].toNat → 128 ≤ r) := by
 have hg : ((⟨l.toArray⟩ : ByteArray).get! i).toNat = l[i].toNat := by
  show (l.toArray[i]!).toNat = _
  rw [getElem!_pos l.toArray i (by simpa using h)]
  simp
 have e : ∃ n b1 b2 b3, runeAt l i = Lib.decodeN n l[i].toNat b1 b2 b3 := by
  unfold runeAt
  rw [Lib.decode_at, hg]
  exact ⟨_, _, _, _, rfl⟩
 obtain ⟨n, b1, b2, b3, e⟩ := e
 refine ⟨(runeAt l i).1, (runeAt l i).2, rfl, fun hb => ?_, fun hb => ?_⟩
 ·rw [e]
  unfold Lib.decodeN
  rw [if_pos hb]
  exact ⟨rfl, rfl⟩
 ·rw [e]
  exact dec_big _ _ _ _ _ hb
theorem isdigit_c (n : Int) : AC Tryz.prog 214 [.it .i32 n] [] (.bo (decide (48 ≤ n) && decide (n ≤ 57))) [] := by
 refine AC.enter [] [] Tryz.func214 rfl (by decide) (by decide) (Nat.le_of_ble_eq_true rfl) (by kernel_rfl) ?_; simp only [eraseC, eraseO, List.map_cons, List.map_nil, List.map_toArray, List.getElem?_toArray, List.getElem?_cons_zero, List.getElem?_cons_succ, Option.bind_some, Option.bind_none, List.append_eq, List.cons_append, List.nil_append]
 by_cases h : 48 ≤ n
 ·rw [decide_eq_true h]
  refine run ?_
  exact er0
 ·rw [decide_eq_false h]
  refine run ?_
  exact er0
theorem idright_c (s : By) (hs : s.length ≤ 140737488355328) : AC Tryz.prog 187 [.st s] [] (.bo (idR s)) [] := by
 refine AC.enter [214] [] Tryz.func187 rfl (by decide) (by decide) (Nat.le_of_ble_eq_true rfl) (by kernel_rfl) ?_; simp only [eraseC, eraseO, List.map_cons, List.map_nil, List.map_toArray, List.getElem?_toArray, List.getElem?_cons_zero, List.getElem?_cons_succ, Option.bind_some, Option.bind_none, List.append_eq, List.cons_append, List.nil_append]
 unfold idR
 by_cases hl : s.length = 16
 rotate_left
 ·rw [decide_eq_false hl]
  refine run ?_
  exact er0
 rw [decide_eq_true hl]
 refine run ?_
 refine loop_mk (fun m e S => e 0 = .st s ∧ e 9 = .ptr 0 0 ∧ ∃ k : Nat, S = [.siter s k] ∧ k ≤ s.length ∧ (s.take k).all hexc = true ∧ m = s.length - k) s.length ⟨(by first | rfl | (simp only [↓upd_apply, ↓put_some, ↓reduceIte, Nat.reduceEqDiff, ↓argEnv_zero, ↓argEnv_succ, *]; done)), (by first | rfl | (simp only [↓upd_apply, ↓put_some, ↓reduceIte, Nat.reduceEqDiff, ↓argEnv_zero, ↓argEnv_succ, *]; done)), 0, rfl, by omega, rfl, rfl⟩ ?_
 rintro m e S ⟨s0, s9, k, rfl, hk, hall, rfl⟩
 by_cases hlt : k < s.length
 rotate_left
 ·obtain rfl : k = s.length := by omega
  rw [List.take_length] at hall
  rw [hall]
  refine runf (an @s0 (an @s9 @hlt)) ?_
  exact er0
 obtain ⟨r, w, hr, h1, h2⟩ := rune_at s k hlt
 have hx : hexc s[k] = true ↔ (48 ≤ r ∧ r ≤ 57) ∨ (97 ≤ r ∧ r ≤ 102) := by
  unfold hexc
  simp only [Bool.or_eq_true, Bool.and_eq_true, decide_eq_true_eq]
  by_cases h : s[k].toNat < 128
  ·rw [(h1 h).1]
  ·have := h2 (by omega); omega
 have hstep : s.take (k + 1) = s.take k ++ [s[k]] := List.take_succ_eq_append_getElem hlt
 have hbad : hexc s[k] = false → s.all hexc = false := fun h => List.all_eq_false.2 ⟨s[k], List.getElem_mem hlt, by simp [h]⟩
 have hgood : hexc s[k] = true → w = 1 := fun h => by
  refine (h1 ?_).2
  refine Nat.lt_of_not_le fun h' => ?_
  have := h2 h'
  have := hx.1 h
  omega
 generalize s[k] = b at *
 clear h1 h2
 cases hb : hexc b with
 | true =>
  obtain rfl := hgood hb
  have hc := hx.1 hb
  refine runf (an @s0 (an @s9 (an @hlt @hr))) ?_
  refine cp (isdigit_c r) ?_
  rcases hc with ⟨c1, c2⟩ | ⟨c1, c2⟩
  ·refine runf (an @s0 @s9) ?_
   exact round_mk (s.length - (k + 1)) (by omega) ⟨(by first | rfl | (simp only [↓upd_apply, ↓put_some, ↓reduceIte, Nat.reduceEqDiff, ↓argEnv_zero, ↓argEnv_succ, *]; done)), (by first | rfl | (simp only [↓upd_apply, ↓put_some, ↓reduceIte, Nat.reduceEqDiff, ↓argEnv_zero, ↓argEnv_succ, *]; done)), k + 1, rfl, by omega, by rw [hstep, List.all_append, hall]; simp [hb], rfl⟩
  ·refine runf (an @s0 @s9) ?_
   exact round_mk (s.length - (k + 1)) (by omega) ⟨(by first | rfl | (simp only [↓upd_apply, ↓put_some, ↓reduceIte, Nat.reduceEqDiff, ↓argEnv_zero, ↓argEnv_succ, *]; done)), (by first | rfl | (simp only [↓upd_apply, ↓put_some, ↓reduceIte, Nat.reduceEqDiff, ↓argEnv_zero, ↓argEnv_succ, *]; done)), k + 1, rfl, by omega, by rw [hstep, List.all_append, hall]; simp [hb], rfl⟩
 | false =>
  rw [hbad hb]
  have hc : ¬ ((48 ≤ r ∧ r ≤ 57) ∨ (97 ≤ r ∧ r ≤ 102)) := fun h => by rw [hx.2 h] at hb; cases hb
  clear hbad hgood hx
  refine runf (an @s0 (an @s9 (an @hlt @hr))) ?_
  refine cp (isdigit_c r) ?_
  by_cases c1 : r < 48
  ·refine runf (an @s0 @s9) ?_
   exact er0
  by_cases c2 : r < 97
  ·refine runf (an @s0 @s9) ?_
   exact er0
  ·refine runf (an @s0 @s9) ?_
   exact er0
theorem nameR_false {s : By} {k : Nat} (hk : k < s.length) (h : (if k = 0 then letter s[k] else namec s[k]) = false) : nameR s = false := by
 cases s with
 | nil => rfl
 | cons c r =>
  show (decide (r.length ≤ 23) && letter c && r.all namec) = false
  cases k with
  | zero => simp at h; simp [h]
  | succ k =>
   simp only [List.getElem_cons_succ, Nat.add_one_ne_zero, if_false] at h
   have : r.all namec = false := List.all_eq_false.2 ⟨_, List.getElem_mem (by simpa using hk), by rw [h]; simp⟩
   rw [this]
   simp
theorem nameR_true {s : By} (h0 : 0 < s.length) (hl : s.length ≤ 24) (h : ∀ j (hj : j < s.length), (if j = 0 then letter s[j] else namec s[j]) = true) : nameR s = true := by
 cases s with
 | nil => simp at h0
 | cons c r =>
  show (decide (r.length ≤ 23) && letter c && r.all namec) = true
  have h1 := h 0 (by simp)
  simp only [List.getElem_cons_zero, if_true] at h1
  have h2 : r.all namec = true := List.all_eq_true.2 fun x hx => by
   obtain ⟨j, hj, rfl⟩ := List.getElem_of_mem hx
   have := h (j + 1) (by simp; omega)
   simpa using this
  simp only [List.length_cons] at hl
  rw [h1, h2, decide_eq_true (by omega)]
  rfl
theorem nameR_long {s : By} (h : 24 < s.length) : nameR s = false := by
 cases s with
 | nil => rfl
 | cons c r =>
  simp only [List.length_cons] at h
  show (decide (r.length ≤ 23) && letter c && r.all namec) = false
  rw [decide_eq_false (by omega)]
  rfl
set_option maxHeartbeats 1600000 in
theorem name_c (s : By) (hs : s.length ≤ 140737488355328) : AC Tryz.prog 223 [.st s] [] (.bo (nameR s)) [] := by
 refine AC.enter [214] [] Tryz.func223 rfl (by decide) (by decide) (Nat.le_of_ble_eq_true rfl) (by kernel_rfl) ?_; simp only [eraseC, eraseO, List.map_cons, List.map_nil, List.map_toArray, List.getElem?_toArray, List.getElem?_cons_zero, List.getElem?_cons_succ, Option.bind_some, Option.bind_none, List.append_eq, List.cons_append, List.nil_append]
 by_cases h0 : s = []
 ·subst h0
  rw [show nameR [] = false from rfl]
  refine run ?_
  exact er0
 have hne : (s == []) = false := by simpa using h0
 have hpos : 0 < s.length := List.length_pos_iff.2 h0
 by_cases hl : 24 < s.length
 ·rw [nameR_long hl]
  refine runf @hne ?_
  exact er0
 refine runf @hne ?_
 refine loop_mk (fun m e S => e 0 = .st s ∧ e 14 = .ptr 0 0 ∧ ∃ k : Nat, S = [.siter s k] ∧ k ≤ s.length ∧ (∀ j (hj : j < s.length), j < k → (if j = 0 then letter s[j] else namec s[j]) = true) ∧ m = s.length - k) s.length ⟨(by first | rfl | (simp only [↓upd_apply, ↓put_some, ↓reduceIte, Nat.reduceEqDiff, ↓argEnv_zero, ↓argEnv_succ, *]; done)), (by first | rfl | (simp only [↓upd_apply, ↓put_some, ↓reduceIte, Nat.reduceEqDiff, ↓argEnv_zero, ↓argEnv_succ, *]; done)), 0, rfl, by omega, fun j _ h => absurd h (Nat.not_lt_zero _), rfl⟩ ?_
 rintro m e S ⟨s0, s14, k, rfl, hk, hall, rfl⟩
 by_cases hlt : k < s.length
 rotate_left
 ·rw [nameR_true hpos (by omega) fun j hj => hall j hj (by omega)]
  refine runf (an @s0 (an @s14 @hlt)) ?_
  exact er0
 obtain ⟨r, w, hr, h1, h2⟩ := rune_at s k hlt
 have hx : (if k = 0 then letter s[k] else namec s[k]) = true ↔ (97 ≤ r ∧ r ≤ 122) ∨ (k ≠ 0 ∧ ((48 ≤ r ∧ r ≤ 57) ∨ r = 95)) := by
  have h3 : s[k].toNat = r ∨ (128 ≤ s[k].toNat ∧ 128 ≤ r) := by
   by_cases h : s[k].toNat < 128
   ·exact .inl (h1 h).1.symm
   ·exact .inr ⟨by omega, h2 (by omega)⟩
  split
  ·rename_i hk0
   simp only [letter, Bool.and_eq_true, decide_eq_true_eq]
   omega
  ·rename_i hk0
   simp only [namec, letter, Bool.or_eq_true, Bool.and_eq_true, decide_eq_true_eq]
   omega
 have hbad := fun h => nameR_false (s := s) (k := k) hlt h
 have hgood : (if k = 0 then letter s[k] else namec s[k]) = true → w = 1 := fun h => by
  refine (h1 ?_).2
  refine Nat.lt_of_not_le fun h' => ?_
  have := h2 h'
  have := hx.1 h
  omega
 have hnext : (if k = 0 then letter s[k] else namec s[k]) = true → ∀ j (hj : j < s.length), j < k + 1 → (if j = 0 then letter s[j] else namec s[j]) = true := fun h j hj hjk => by
  by_cases e : j = k
  ·subst e; exact h
  ·exact hall j hj (by omega)
 generalize (if k = 0 then letter s[k] else namec s[k]) = b at *
 clear h1 h2
 cases b with
 | true =>
  obtain rfl := hgood rfl
  have hc := hx.1 rfl
  have hn := hnext rfl
  clear hbad hgood hx hnext
  rcases hc with c1 | ⟨c0, c1⟩
  ·refine runf (an @s0 (an @s14 (an @hlt @hr))) ?_
   exact round_mk (s.length - (k + 1)) (by omega) ⟨(by first | rfl | (simp only [↓upd_apply, ↓put_some, ↓reduceIte, Nat.reduceEqDiff, ↓argEnv_zero, ↓argEnv_succ, *]; done)), (by first | rfl | (simp only [↓upd_apply, ↓put_some, ↓reduceIte, Nat.reduceEqDiff, ↓argEnv_zero, ↓argEnv_succ, *]; done)), k + 1, rfl, by omega, hn, rfl⟩
  ·have c00 : ¬ ((k : Int) = 0) := by omega
   by_cases cl : r < 97
   focus
    refine runf (an @s0 (an @s14 (an @hlt @hr))) ?_
    refine cp (isdigit_c r) ?_
    rcases c1 with c1 | c1
    ·refine runf (an @s0 @s14) ?_
     exact round_mk (s.length - (k + 1)) (by omega) ⟨(by first | rfl | (simp only [↓upd_apply, ↓put_some, ↓reduceIte, Nat.reduceEqDiff, ↓argEnv_zero, ↓argEnv_succ, *]; done)), (by first | rfl | (simp only [↓upd_apply, ↓put_some, ↓reduceIte, Nat.reduceEqDiff, ↓argEnv_zero, ↓argEnv_succ, *]; done)), k + 1, rfl, by omega, hn, rfl⟩
    ·subst c1
     refine runf (an @s0 @s14) ?_
     exact round_mk (s.length - (k + 1)) (by omega) ⟨(by first | rfl | (simp only [↓upd_apply, ↓put_some, ↓reduceIte, Nat.reduceEqDiff, ↓argEnv_zero, ↓argEnv_succ, *]; done)), (by first | rfl | (simp only [↓upd_apply, ↓put_some, ↓reduceIte, Nat.reduceEqDiff, ↓argEnv_zero, ↓argEnv_succ, *]; done)), k + 1, rfl, by omega, hn, rfl⟩
   exact absurd c1 (by omega)
 | false =>
  rw [hbad rfl]
  have hc : ¬ ((97 ≤ r ∧ r ≤ 122) ∨ (k ≠ 0 ∧ ((48 ≤ r ∧ r ≤ 57) ∨ r = 95))) := fun h => by have := hx.2 h; cases this
  clear hbad hgood hx hnext hall
  by_cases hk0 : k = 0
  ·subst hk0
   by_cases c1 : r < 97
   ·refine runf (an @s0 (an @s14 (an @hlt @hr))) ?_
    exact er0
   ·refine runf (an @s0 (an @s14 (an @hlt @hr))) ?_
    exact er0
  by_cases c1 : r < 97
  focus
   refine runf (an @s0 (an @s14 (an @hlt @hr))) ?_
   refine cp (isdigit_c r) ?_
   by_cases c2 : r < 48
   ·refine runf (an @s0 @s14) ?_
    exact er0
   ·refine runf (an @s0 @s14) ?_
    exact er0
  focus
   refine runf (an @s0 (an @s14 (an @hlt @hr))) ?_
   refine cp (isdigit_c r) ?_
   refine runf (an @s0 @s14) ?_
   exact er0
theorem asc_true : ∀ {l : List By}, (∀ j (h : j + 1 < l.length), (Op.bytesLess l[j + 1] l[j] || l[j + 1] == l[j]) = false) → asc l = true
 | [], _ => rfl
 | [_], _ => rfl
 | a :: b :: r, h => by
  unfold asc
  have h0 := h 0 (by simp)
  simp only [List.getElem_cons_succ, List.getElem_cons_zero] at h0
  rw [h0, asc_true fun j hj => by
   have := h (j + 1) (by simp at hj ⊢; omega)
   simpa using this]
  rfl
theorem asc_false : ∀ {l : List By} {j : Nat} (h : j + 1 < l.length), (Op.bytesLess l[j + 1] l[j] || l[j + 1] == l[j]) = true → asc l = false
 | [], _, h, _ => by simp at h
 | [_], _, h, _ => by simp at h
 | a :: b :: r, 0, _, h => by
  simp only [List.getElem_cons_succ, List.getElem_cons_zero] at h
  unfold asc
  rw [h]
  rfl
 | a :: b :: r, j + 1, hj, h => by
  unfold asc
  rw [asc_false (l := b :: r) (j := j) (by simp at hj ⊢; omega) (by simpa using h)]
  simp
set_option maxHeartbeats 1600000 in
theorem ids_c (l : List By) (hs : ∀ s ∈ l, s.length ≤ 140737488355328) (hl : l.length ≤ 140737488355328) : AC Tryz.prog 226 [sls l] [] (.bo (idsR l)) [] := by
 refine AC.enter [187] [] Tryz.func226 rfl (by decide) (by decide) (Nat.le_of_ble_eq_true rfl) (by kernel_rfl) ?_; simp only [eraseC, eraseO, List.map_cons, List.map_nil, List.map_toArray, List.getElem?_toArray, List.getElem?_cons_zero, List.getElem?_cons_succ, Option.bind_some, Option.bind_none, List.append_eq, List.cons_append, List.nil_append]
 unfold idsR
 by_cases h64 : l.length ≤ 64
 rotate_left
 ·rw [decide_eq_false h64]
  refine run ?_
  exact er0
 rw [decide_eq_true h64]
 refine run ?_
 refine loop_mk (fun m e S => S = [] ∧ e 0 = sls l ∧ e 8 = sls l ∧ e 9 = .it .i64 (l.length : Int) ∧ ∃ k : Nat, e 10 = .it .i64 (k : Int) ∧ k ≤ l.length ∧ (∀ j (h : j < l.length), j < k → idR l[j] = true) ∧
  (∀ j (h : j + 1 < l.length), j + 1 < k → (Op.bytesLess l[j + 1] l[j] || l[j + 1] == l[j]) = false) ∧ m = l.length - k) l.length ⟨rfl, (by first | rfl | (simp only [↓upd_apply, ↓put_some, ↓reduceIte, Nat.reduceEqDiff, ↓argEnv_zero, ↓argEnv_succ, *]; done)), (by first | rfl | (simp only [↓upd_apply, ↓put_some, ↓reduceIte, Nat.reduceEqDiff, ↓argEnv_zero, ↓argEnv_succ, *]; done)), (by first | rfl | (simp only [↓upd_apply, ↓put_some, ↓reduceIte, Nat.reduceEqDiff, ↓argEnv_zero, ↓argEnv_succ, *]; done)), 0, (by first | rfl | (simp only [↓upd_apply, ↓put_some, ↓reduceIte, Nat.reduceEqDiff, ↓argEnv_zero, ↓argEnv_succ, *]; done)), by omega, fun j _ h => absurd h (Nat.not_lt_zero _), fun j _ h => absurd h (Nat.not_lt_zero _), rfl⟩ ?_
 rintro m e S ⟨rfl, s0, s8, s9, k, s10, hk, hid, hasc, rfl⟩
 by_cases hlt : k < l.length
 rotate_left
 ·obtain rfl : k = l.length := by omega
  have h1 : l.all idR = true := List.all_eq_true.2 fun x hx => by
   obtain ⟨j, hj, rfl⟩ := List.getElem_of_mem hx
   exact hid j hj hj
  rw [h1, asc_true fun j h => hasc j h h]
  refine runf (an @s0 (an @s8 (an @s9 @s10))) ?_
  exact er0
 have hg : l[k]? = some l[k] := List.getElem?_eq_getElem hlt
 have hsk := hs l[k] (List.getElem_mem hlt)
 refine runf (an @s0 (an @s8 (an @s9 (an @s10 @hg)))) ?_
 refine cp (idright_c l[k] hsk) ?_
 cases hb : idR l[k] with
 | false =>
  have : l.all idR = false := List.all_eq_false.2 ⟨l[k], List.getElem_mem hlt, by simp [hb]⟩
  rw [this]
  refine runf (an @s0 (an @s8 (an @s9 @s10))) ?_
  exact er0
 | true =>
  have hid' : ∀ j (h : j < l.length), j < k + 1 → idR l[j] = true := fun j h hj => by
   by_cases e : j = k
   ·subst e; exact hb
   ·exact hid j h (by omega)
  cases k with
  | zero =>
   refine runf (an @s0 (an @s8 (an @s9 (an @s10 @hg)))) ?_
   exact round_mk (l.length - 1) (by omega) ⟨rfl, (by first | rfl | (simp only [↓upd_apply, ↓put_some, ↓reduceIte, Nat.reduceEqDiff, ↓argEnv_zero, ↓argEnv_succ, *]; done)), (by first | rfl | (simp only [↓upd_apply, ↓put_some, ↓reduceIte, Nat.reduceEqDiff, ↓argEnv_zero, ↓argEnv_succ, *]; done)), (by first | rfl | (simp only [↓upd_apply, ↓put_some, ↓reduceIte, Nat.reduceEqDiff, ↓argEnv_zero, ↓argEnv_succ, *]; done)), 1, (by first | rfl | (simp only [↓upd_apply, ↓put_some, ↓reduceIte, Nat.reduceEqDiff, ↓argEnv_zero, ↓argEnv_succ, *]; done)), by omega, hid', fun j _ h => by omega, rfl⟩
  | succ k =>
   have hg' : l[k]? = some l[k] := List.getElem?_eq_getElem (by omega)
   have hc : ((k + 1 : Nat) : Int) - 1 = (k : Int) := by omega
   have hpos : (0 : Int) < ((k + 1 : Nat) : Int) := by omega
   cases hcmp : (Op.bytesLess l[k + 1] l[k] || l[k + 1] == l[k]) with
   | true =>
    rw [asc_false (j := k) hlt hcmp, Bool.and_false]
    refine runf (an @s0 (an @s8 (an @s9 (an @s10 (an @hg (an @hg' (an @hc @hcmp))))))) ?_
    exact er0
   | false =>
    refine runf (an @s0 (an @s8 (an @s9 (an @s10 (an @hg (an @hg' (an @hc @hcmp))))))) ?_
    exact round_mk (l.length - (k + 1 + 1)) (by omega) ⟨rfl, (by first | rfl | (simp only [↓upd_apply, ↓put_some, ↓reduceIte, Nat.reduceEqDiff, ↓argEnv_zero, ↓argEnv_succ, *]; done)), (by first | rfl | (simp only [↓upd_apply, ↓put_some, ↓reduceIte, Nat.reduceEqDiff, ↓argEnv_zero, ↓argEnv_succ, *]; done)), (by first | rfl | (simp only [↓upd_apply, ↓put_some, ↓reduceIte, Nat.reduceEqDiff, ↓argEnv_zero, ↓argEnv_succ, *]; done)), k + 1 + 1, (by first | rfl | (simp only [↓upd_apply, ↓put_some, ↓reduceIte, Nat.reduceEqDiff, ↓argEnv_zero, ↓argEnv_succ, *]; done)), by omega, hid', fun j h hj => by
     by_cases e : j = k
     ·subst e; exact hcmp
     ·exact hasc j h (by omega), rfl⟩
end Go.Proofs.YthbpbkbjdfcnjaaGreatDoor.Pe
end
section
namespace Go.Proofs.YthbpbkbjdfcnjaaGreatDoor.Pe
open Go
variable [Tab]
set_option maxRecDepth 100000
def blen (n : Nat) : Nat := if n = 0 then 0 else Nat.log2 n + 1
theorem blen_shift {n s : Nat} (h : 2 ^ s ≤ n) : blen n = blen (n / 2 ^ s) + s := by
 have hp : 0 < 2 ^ s := Nat.pow_pos (by omega)
 have h1 : 0 < n / 2 ^ s := Nat.div_pos h hp
 unfold blen
 rw [if_neg (by omega), if_neg (by omega)]
 have e : Nat.log2 n = Nat.log2 (n / 2 ^ s) + s := by
  have h2 := (Nat.log2_eq_iff (n := n / 2 ^ s) (k := Nat.log2 (n / 2 ^ s)) (by omega)).1 rfl
  refine (Nat.log2_eq_iff (by omega)).2 ⟨?_, ?_⟩
  ·rw [Nat.pow_add]
   exact (Nat.le_div_iff_mul_le hp).1 h2.1
  ·rw [show Nat.log2 (n / 2 ^ s) + s + 1 = (Nat.log2 (n / 2 ^ s) + 1) + s from by omega, Nat.pow_add]
   exact (Nat.div_lt_iff_lt_mul hp).1 h2.2
 omega
theorem shr_lit (n : Nat) (b : Int) (s : Nat) (h : b = (s : Int)) (h' : s ≤ 64) : aShr .u64 (n : Int) b = some (.it .u64 ((n / 2 ^ s : Nat) : Int)) := by
 subst h
 unfold aShr
 rw [if_pos (by omega)]
 congr 2
 rw [Int.toNat_natCast, show min s IntKind.u64.bits = s from Nat.min_eq_left h']
 rw [Int.fdiv_eq_ediv_of_nonneg _ (by exact Int.le_of_lt (Int.pow_pos (by omega)))]
 norm_cast
theorem u8_small (x : Nat) (h : x < 256) : IntKind.u8.wrap (x : Int) = (x : Int) := by
 rw [wrap8n]
 simp; omega
theorem blen_le (x : Nat) : blen x ≤ x + 1 := by
 unfold blen
 split
 ·omega
 ·have := Nat.log2_lt (n := x) (k := x) (by assumption)
  have := this.2 Nat.lt_two_pow_self
  omega
theorem tab_idx (L : List UInt8) (hL : ∀ x, x < 256 → L[x]? = some (UInt8.ofNat (blen x))) (x : Nat) (h : x < 256) : (if 0 ≤ (x : Int) then Option.map u8 L[x]? else none) = some (.it .u8 (blen x : Int)) := by
 rw [if_pos (by omega), hL x h]
 have : blen x < 256 := by
  have : blen x ≤ 8 := by
   unfold blen
   split
   ·omega
   ·have := (Nat.log2_lt (n := x) (k := 8) (by assumption)).2 (by omega)
    omega
  omega
 simp only [u8, Option.map_some]
 congr 2
 simp; omega
set_option maxHeartbeats 2000000 in
theorem len64_c (n : Nat) (h : n < 18446744073709551616) : AC Tryz.prog 152 [.it .u64 n] [] (.it .i64 (blen n)) [] := by
 have s8 : ∀ n : Nat, aShr .u64 (n : Int) 8 = some (.it .u64 ((n / 2 ^ 8 : Nat) : Int)) := fun n => shr_lit n 8 8 rfl (by omega)
 have s16 : ∀ n : Nat, aShr .u64 (n : Int) 16 = some (.it .u64 ((n / 2 ^ 16 : Nat) : Int)) := fun n => shr_lit n 16 16 rfl (by omega)
 have s32 : ∀ n : Nat, aShr .u64 (n : Int) 32 = some (.it .u64 ((n / 2 ^ 32 : Nat) : Int)) := fun n => shr_lit n 32 32 rfl (by omega)
 refine AC.enter [] [] Tryz.func152 rfl (by decide) (by decide) (Nat.le_of_ble_eq_true rfl) (by kernel_rfl) ?_; simp only [eraseC, eraseO, List.map_cons, List.map_nil, List.map_toArray, List.getElem?_toArray, List.getElem?_cons_zero, List.getElem?_cons_succ, Option.bind_some, Option.bind_none, List.append_eq, List.cons_append, List.nil_append]
 refine run ?_
 refine iteP_mk (fun h1 => ?_) (fun h1 => ?_)
 ·have l32 : 4294967296 ≤ n := by have := of_decide_eq_true h1; omega
  have e32 := blen_shift (n := n) (s := 32) l32
  have m32 : n / 2 ^ 32 < 4294967296 := by omega
  refine runf (an @s32 (an @s16 @s8)) ?_
  generalize n / 2 ^ 32 = x at *
  refine iteP_mk (fun h1 => ?_) (fun h1 => ?_)
  ·have l16 : 65536 ≤ x := by have := of_decide_eq_true h1; omega
   have e16 := blen_shift (n := x) (s := 16) l16
   have m16 : x / 2 ^ 16 < 65536 := by omega
   refine runf (an @s32 (an @s16 @s8)) ?_
   generalize x / 2 ^ 16 = y at *
   refine iteP_mk (fun h1 => ?_) (fun h1 => ?_)
   ·have l8 : 256 ≤ y := by have := of_decide_eq_true h1; omega
    have e8 := blen_shift (n := y) (s := 8) l8
    have m8 : y / 2 ^ 8 < 256 := by omega
    refine runf (an @s32 (an @s16 @s8)) ?_
    generalize y / 2 ^ 8 = z at *
    have t1 := u8_small z (by omega)
    have t3 := blen_le z
    refine runf @t1 ?_
    refine bindV_mk _ (tab_idx _ (by decide +kernel) z (by omega)) ?_
    refine runf @Int.zero_add ?_
    refine ends_ret0 (by rfl) (by rfl) ?_
    exact congrArg (AV.it .i64) (by omega)
   ·have l8 : y < 256 := by have := of_decide_eq_false h1; omega
    refine run ?_
    have t1 := u8_small y (by omega)
    have t3 := blen_le y
    refine runf @t1 ?_
    refine bindV_mk _ (tab_idx _ (by decide +kernel) y (by omega)) ?_
    refine runf @Int.zero_add ?_
    refine ends_ret0 (by rfl) (by rfl) ?_
    exact congrArg (AV.it .i64) (by omega)
  ·have l16 : x < 65536 := by have := of_decide_eq_false h1; omega
   refine run ?_
   refine iteP_mk (fun h1 => ?_) (fun h1 => ?_)
   ·have l8 : 256 ≤ x := by have := of_decide_eq_true h1; omega
    have e8 := blen_shift (n := x) (s := 8) l8
    have m8 : x / 2 ^ 8 < 256 := by omega
    refine runf (an @s32 (an @s16 @s8)) ?_
    generalize x / 2 ^ 8 = z at *
    have t1 := u8_small z (by omega)
    have t3 := blen_le z
    refine runf @t1 ?_
    refine bindV_mk _ (tab_idx _ (by decide +kernel) z (by omega)) ?_
    refine runf @Int.zero_add ?_
    refine ends_ret0 (by rfl) (by rfl) ?_
    exact congrArg (AV.it .i64) (by omega)
   ·have l8 : x < 256 := by have := of_decide_eq_false h1; omega
    refine run ?_
    have t1 := u8_small x (by omega)
    have t3 := blen_le x
    refine runf @t1 ?_
    refine bindV_mk _ (tab_idx _ (by decide +kernel) x (by omega)) ?_
    refine runf @Int.zero_add ?_
    refine ends_ret0 (by rfl) (by rfl) ?_
    exact congrArg (AV.it .i64) (by omega)
 ·have l32 : n < 4294967296 := by have := of_decide_eq_false h1; omega
  refine run ?_
  refine iteP_mk (fun h1 => ?_) (fun h1 => ?_)
  ·have l16 : 65536 ≤ n := by have := of_decide_eq_true h1; omega
   have e16 := blen_shift (n := n) (s := 16) l16
   have m16 : n / 2 ^ 16 < 65536 := by omega
   refine runf (an @s32 (an @s16 @s8)) ?_
   generalize n / 2 ^ 16 = y at *
   refine iteP_mk (fun h1 => ?_) (fun h1 => ?_)
   ·have l8 : 256 ≤ y := by have := of_decide_eq_true h1; omega
    have e8 := blen_shift (n := y) (s := 8) l8
    have m8 : y / 2 ^ 8 < 256 := by omega
    refine runf (an @s32 (an @s16 @s8)) ?_
    generalize y / 2 ^ 8 = z at *
    have t1 := u8_small z (by omega)
    have t3 := blen_le z
    refine runf @t1 ?_
    refine bindV_mk _ (tab_idx _ (by decide +kernel) z (by omega)) ?_
    refine runf @Int.zero_add ?_
    refine ends_ret0 (by rfl) (by rfl) ?_
    exact congrArg (AV.it .i64) (by omega)
   ·have l8 : y < 256 := by have := of_decide_eq_false h1; omega
    refine run ?_
    have t1 := u8_small y (by omega)
    have t3 := blen_le y
    refine runf @t1 ?_
    refine bindV_mk _ (tab_idx _ (by decide +kernel) y (by omega)) ?_
    refine runf @Int.zero_add ?_
    refine ends_ret0 (by rfl) (by rfl) ?_
    exact congrArg (AV.it .i64) (by omega)
  ·have l16 : n < 65536 := by have := of_decide_eq_false h1; omega
   refine run ?_
   refine iteP_mk (fun h1 => ?_) (fun h1 => ?_)
   ·have l8 : 256 ≤ n := by have := of_decide_eq_true h1; omega
    have e8 := blen_shift (n := n) (s := 8) l8
    have m8 : n / 2 ^ 8 < 256 := by omega
    refine runf (an @s32 (an @s16 @s8)) ?_
    generalize n / 2 ^ 8 = z at *
    have t1 := u8_small z (by omega)
    have t3 := blen_le z
    refine runf @t1 ?_
    refine bindV_mk _ (tab_idx _ (by decide +kernel) z (by omega)) ?_
    refine runf @Int.zero_add ?_
    refine ends_ret0 (by rfl) (by rfl) ?_
    exact congrArg (AV.it .i64) (by omega)
   ·have l8 : n < 256 := by have := of_decide_eq_false h1; omega
    refine run ?_
    have t1 := u8_small n (by omega)
    have t3 := blen_le n
    refine runf @t1 ?_
    refine bindV_mk _ (tab_idx _ (by decide +kernel) n (by omega)) ?_
    refine runf @Int.zero_add ?_
    refine ends_ret0 (by rfl) (by rfl) ?_
    exact congrArg (AV.it .i64) (by omega)
end Go.Proofs.YthbpbkbjdfcnjaaGreatDoor.Pe
end
section
namespace Go.Proofs.YthbpbkbjdfcnjaaGreatDoor
open Go.RowKit Sm
set_option maxRecDepth 100000
theorem ret_int {k : IntKind} {a b : Int} (h : a = b) : Ending.returned (.int k a) = .returned (.int k b) := by rw [h]
end Go.Proofs.YthbpbkbjdfcnjaaGreatDoor
namespace Go.Proofs.YthbpbkbjdfcnjaaGreatDoor
open Go.RowKit Sm
set_option maxRecDepth 100000
def rowU (w : World) (b : Nat) (t : TypeId) (n : Nat) (ws : List (BitVec 32)) : Prop := w.rowIs b t n (fun j => w32 (ws.getD j 0))
theorem rowU_push {w : World} {b : Nat} {t : TypeId} {n : Nat} {ws : List (BitVec 32)} (h : rowU w b t n ws) (x : BitVec 32) : rowU (w.setCell ⟨b, ws.length, none⟩ (w32 x)) b t n (ws ++ [x]) := by
 refine World.rowIs.congr (World.rowIs.set h ws.length (w32 x)) fun i _ => ?_
 rw [getD_app]
 split <;> rfl
theorem rowU_zero {w : World} {b : Nat} (n : Nat) (cs : Array Value) (t : TypeId) (hb : b = w.heap.size) (h : cs = (List.replicate n (Value.int .u32 0)).toArray) : rowU (w.alloc (.cells cs t)) b t n [] := by
 subst h hb
 have := World.rowIs_alloc w (List.replicate n (Value.int .u32 0)).toArray t (fun _ => w32 0) (fun i hi => by
  simp at hi
  simp [List.getElem?_replicate, hi]
  rfl)
 simpa [rowU] using this
theorem turn_any (x : BitVec 32) (n : Int) (w : World) (h0 : 0 < n) (h : n < 32) :
  Calls Tryz.prog 202 #[w32 x, .int .i64 n] w fun e w' => e = .returned (w32 (rot x n.toNat)) ∧ w = w' := by
 have e := rot_eq x n h0 h
 have E := Veil.mk e; clear e
 go_enter Tryz.func202, Tryz.ntmps202
 go_wp2
 go_ret
 rw [← E.out]
 exact ⟨rfl, rfl⟩
theorem rowU_nil {w : World} {b : Nat} {t : TypeId} {n : Nat} (h : rowU w b t n []) : rowU w b t n (List.replicate n 0) :=
 World.rowIs.congr h (fun i hi => by simp [List.getElem?_replicate, hi])
theorem rowU_heap {w : World} {b : Nat} {t : TypeId} {n : Nat} {ws : List (BitVec 32)} (h : rowU w b t n ws) (hl : ws.length = n) : w.heap[b]? = some (.cells (ws.map w32).toArray t (0, 0)) := by
 obtain ⟨cs, hc, hs, he⟩ := h
 rw [hc]
 have : cs = (ws.map w32).toArray := by
  apply Array.ext
  ·simp [hs, hl]
  ·intro i h1 h2
   have := he i (by omega)
   rw [Array.getElem?_eq_getElem h1] at this
   injection this with this
   rw [this]
   simp at h2
   simp [List.getElem?_eq_getElem h2]
 rw [this]
theorem info64 : (Tryz.prog.info? 208).map (·.size) = some 64 := by kernel_rfl
theorem info8 : (Tryz.prog.info? 182).map (·.size) = some 8 := by kernel_rfl
set_option maxRecDepth 100000 in
set_option maxHeartbeats 4000000 in
theorem sched_any (s : ByteArray) (w : World) (hs : s.size = 64) :
  Calls Tryz.prog 201 #[.string s] w fun e w' => e = .returned (.agg ((sched s.data.toList).map w32).toArray) ∧ Below w.heap.size w w' := by
 have Hs := Veil.mk hs; clear hs
 go_enter Tryz.func201, Tryz.ntmps201
 go_wp2
 go_loopw [4, 5, 11] (fun _ _ i wr => ∃ k : Nat, k ≤ 16 ∧ i = .int .i64 k ∧ rowU wr w.heap.size 208 64 [] ∧ rowU wr (w.heap.size + 1) 208 64 (firstW s.data.toList k) ∧ Below w.heap.size w wr) (fun _ _ i _ => 16 - (intOf i).toNat)
 case atStart =>
  refine ⟨0, by omega, rfl, World.rowIs.alloc (rowU_zero 64 _ _ rfl rfl) _, ?_, ?_⟩
  ·exact rowU_zero 64 _ _ (by simp) rfl
  ·exact ((Below.refl _ _).alloc (Nat.le_refl _) _).alloc (by simp) _
 case round =>
  obtain ⟨k, hk, rfl, h0, h1, hb⟩ := hrel
  by_cases hlt : k < 16
  ·have hs := Hs.out
   have a1 : 4 * k + 4 ≤ s.size := by omega
   clear hs
   have H0 := Veil.mk h0; clear h0
   have H1 := Veil.mk h1
   have c1 := h1.cell (i := k) (by omega)
   have f1 := h1.frozen k
   clear h1
   go_wp2
   generalize hx : s.extract (4 * k) (4 * k + 4) = x
   have ht : 4 ≤ x.size := by subst hx; rw [ByteArray.size_extract]; omega
   have key : ∀ i (h' : i < x.size) (_ : i < 4), x[i] = s.data.toList.getD (4 * k + i) 0 := by
    subst hx; intro i h' h; exact extract_getD s _ _ i (by omega) a1 h'
   have Key := Veil.mk key
   clear key hx
   have i0 : 0 < x.size := by omega
   have i1 : (1 : Int) < x.size := by omega
   have i2 : (2 : Int) < x.size := by omega
   have i3 : (3 : Int) < x.size := by omega
   go_region
   go_wp2
   go_roundw
   case rel =>
    have e := rowU_push H1.out (word4 x[0] x[1] x[2] x[3])
    rw [firstW_length] at e
    refine ⟨k + 1, by omega, by go_num, World.rowIs.setOther H0.out (by simp) _, ?_, (hb.setCell (by simp) _).drew⟩
    rw [firstW_snoc, wordAt]
    rw [Key.out 0 (by omega) (by omega), Key.out 1 (by omega) (by omega), Key.out 2 (by omega) (by omega), Key.out 3 (by omega) (by omega)] at e ⊢
    exact e
   case measure => simp [intOf]; omega
  ·have hk16 : 16 ≤ k := by omega
   clear hlt
   go_wp2
   go_loopw [6, 7, 8] (fun i _ _ wr => ∃ m : Nat, 16 ≤ m ∧ m ≤ 64 ∧ i = .int .i64 m ∧ rowU wr w.heap.size 208 64 [] ∧ rowU wr (w.heap.size + 1) 208 64 (schedN s.data.toList (m - 16)) ∧ Below w.heap.size w wr) (fun i _ _ _ => 64 - (intOf i).toNat)
   case atStart =>
    obtain rfl : k = 16 := by omega
    exact ⟨16, by omega, by omega, rfl, h0, h1, hb⟩
   case round =>
    obtain ⟨m, hm0, hm, rfl, h0, h1, hb⟩ := hrel
    by_cases hlt : m < 64
    ·have H0 := Veil.mk h0; clear h0
     have H1 := Veil.mk h1
     have c15 := h1.cell (i := m - 15) (by omega)
     have c2 := h1.cell (i := m - 2) (by omega)
     have c7 := h1.cell (i := m - 7) (by omega)
     have c16 := h1.cell (i := m - 16) (by omega)
     have c0 := h1.cell (i := m) (by omega)
     have f0 := h1.frozen m
     clear h1
     go_wp2
     go_quiet (fail)
     go_wp2_with (go_at_call 202; refine (turn_any _ _ _ (by omega) (by omega)).mono ?_; rintro e w' ⟨rfl, rfl⟩)
     go_region
     go_wp2
     go_roundw
     case rel =>
      have e := rowU_push H1.out (nextW (schedN s.data.toList (m - 16)) m)
      rw [schedN_length, show 16 + (m - 16) = m from by omega] at e
      refine ⟨m + 1, by omega, by omega, by go_num, World.rowIs.setOther H0.out (by simp) _, ?_, (belowDrewN (hb.setCell (by simp) _) _)⟩
      rw [show m + 1 - 16 = m - 16 + 1 from by omega, schedN, show 16 + (m - 16) = m from by omega]
      exact e
     case measure => simp [intOf]; omega
    ·have hm64 : 64 ≤ m := by omega
     have e : sched s.data.toList = schedN s.data.toList (m - 16) := by rw [sched, show m - 16 = 48 from by omega]
     have E := Veil.mk e; clear e
     have hl : (schedN s.data.toList (m - 16)).length = 64 := by rw [schedN_length]; omega
     generalize hws : schedN s.data.toList (m - 16) = ws at h1 hl
     have Ews := Veil.mk hws; clear hws hlt
     have hr0 := rowU_heap (rowU_nil h0) (by simp)
     have hr1 := rowU_heap h1 hl
     have Hr1 := Veil.mk hr1
     have Hr0 := Veil.mk hr0
     have Hl := Veil.mk hl
     clear h0 h1 hr0 hr1 hl
     have Hc : Veil (∀ j u, (ws.map w32)[j]? = some u → (ws.map w32).toArray[0 + j]? = some u) := ⟨fun j u hu => by simpa using hu⟩
     have Hf : Veil ((ws.map w32).length = (List.map w32 (List.replicate 64 0)).toArray.size) := ⟨by simp [Hl.out]⟩
     have Ho : Veil (∀ u ∈ ws.map w32, u.oneCell' = true) := ⟨oneCell_map32 _⟩
     have Hi : Veil (some 64 = some (ws.map w32).length) := ⟨by rw [List.length_map, Hl.out]⟩
     go_wp2_with (first
      | (refine ld_row rfl _ (.tmp 3) rfl (w.heap.size + 1) 0 rfl Hr1.out Tryz.underlying208 rfl (ws.map w32) (info64.trans Hi.out) Hc.out ?_)
      | (refine st_all rfl _ (.tmp 2) (.tmp 85) rfl w.heap.size rfl (ws.map w32) rfl Hr0.out (info64.trans Hi.out) Hf.out Ho.out ?_))
     refine bodyPost_ret (results_cell_row rfl _ _ w.heap.size _ _ _ _ rfl (setRow_heap wr w.heap.size _ _ _ _ Hr0.out) Tryz.underlying208 rfl (info64.trans (by rw [Hi.out]; simp))) rfl ?_
     exact ⟨by rw [E.out, Ews.out], belowSetRow hb (Nat.le_refl _) _⟩
end Go.Proofs.YthbpbkbjdfcnjaaGreatDoor
namespace Go.Proofs.YthbpbkbjdfcnjaaGreatDoor
open Go.RowKit Sm
set_option maxRecDepth 100000
def Tabs (w : World) : Prop := (∀ i, i < 64 → w.cell? ⟨1, i, none⟩ = some (w32 (tabK.getD i 0))) ∧ (∀ i, i < 8 → w.cell? ⟨0, i, none⟩ = some (w32 (init8.list.getD i 0)))
theorem Tabs.keep {w w' : World} (h : Tabs w) (hk : ∀ b, b < w.heap.size → w'.heap[b]? = w.heap[b]?) : Tabs w' := by
 refine ⟨fun i hi => ?_, fun i hi => ?_⟩
 ·rw [World.cell?_of_block (hk _ (World.block_lt_of_cell? w _ (h.1 i hi)))]
  exact h.1 i hi
 ·rw [World.cell?_of_block (hk _ (World.block_lt_of_cell? w _ (h.2 i hi)))]
  exact h.2 i hi
theorem Tabs.below {w w' : World} (h : Tabs w) {B : Nat} (hb : Below B w w') (hB : w.heap.size ≤ B) : Tabs w' := h.keep fun b hlt => hb.block b (by omega)
theorem Tabs.drew {w : World} (h : Tabs w) : Tabs w.drew := h
theorem Tabs.alloc {w : World} (h : Tabs w) (o : Obj) : Tabs (w.alloc o) := h.keep fun b hb => heap_alloc_old w o hb
set_option maxRecDepth 100000 in
set_option maxHeartbeats 4000000 in
theorem mix_any (st : S8) (s : ByteArray) (w : World) (hs : s.size = 64) (hT : Tabs w) :
  Calls Tryz.prog 164 #[.agg st.cells.toArray, .string s] w fun e w' => e = .returned (.agg (mix8 st s.data.toList).cells.toArray) ∧ Below w.heap.size w w' := by
 have Hs := Veil.mk hs; clear hs
 have HT := Veil.mk hT; clear hT
 obtain ⟨va, vb, vc, vd, ve, vf, vg, vh⟩ := st
 simp only [S8.cells]
 go_enter Tryz.func164, Tryz.ntmps164
 go_wp2_with (first
  | (go_at_call 201; refine (sched_any s _ Hs.out).mono ?_; rintro e w1 ⟨rfl, hb1⟩)
  | (refine st_new _ rfl _ (.tmp 5) (.tmp 18) rfl rfl ((sched s.data.toList).map w32) rfl ?_ ?_ (oneCell_map32 _) ?_))
 ·exact info64.trans (by rw [List.length_map, sched_length])
 ·rw [List.length_map, sched_length]; rfl
 have hbs : Below w.heap.size w w1 := (((Below.refl _ _).alloc (Nat.le_refl _) _).alloc (by simp) _).trans (hb1.mono (by simp; omega))
 have hsz : w.heap.size + 2 ≤ w1.heap.size := by have := hb1.size; simp at this; omega
 have g0 : w1.heap[w.heap.size]? = some (.cells #[w32 va, w32 vb, w32 vc, w32 vd, w32 ve, w32 vf, w32 vg, w32 vh] 182 (0, 0)) :=
  (hb1.block _ (by simp; omega)).trans (heap_alloc2_old w _ _)
 have g1 : w1.heap[w.heap.size + 1]? = some (.cells #[.int .u32 0, .int .u32 0, .int .u32 0, .int .u32 0, .int .u32 0, .int .u32 0, .int .u32 0, .int .u32 0] 182 (0, 0)) :=
  (hb1.block _ (by simp)).trans (heap_alloc2_new w _ _)
 have hT1 : Tabs w1 := HT.out.below hbs (Nat.le_refl _)
 clear hb1
 have k0 : (w1.alloc (.cells ((sched s.data.toList).map w32).toArray 208)).heap[w.heap.size]? = _ := (heap_alloc_old w1 _ (by omega)).trans g0
 have k1 : (w1.alloc (.cells ((sched s.data.toList).map w32).toArray 208)).heap[w.heap.size + 1]? = _ := (heap_alloc_old w1 _ (by omega)).trans g1
 have k2 := heap_alloc_new w1 (.cells ((sched s.data.toList).map w32).toArray 208)
 have kT := hT1.alloc (.cells ((sched s.data.toList).map w32).toArray 208)
 have kb := hbs.alloc hbs.size (.cells ((sched s.data.toList).map w32).toArray 208)
 clear g0 g1 hT1 hbs
 generalize w1.alloc (.cells ((sched s.data.toList).map w32).toArray 208) = w2 at k0 k1 k2 kT kb ⊢
 generalize hW : w1.heap.size = bw at k2 hsz ⊢
 clear hW
 have x0 := cell_of_row w2 w.heap.size 0 _ _ _ k0
 have x1 := cell_of_row w2 w.heap.size 1 _ _ _ k0
 have x2 := cell_of_row w2 w.heap.size 2 _ _ _ k0
 have x3 := cell_of_row w2 w.heap.size 3 _ _ _ k0
 have x4 := cell_of_row w2 w.heap.size 4 _ _ _ k0
 have x5 := cell_of_row w2 w.heap.size 5 _ _ _ k0
 have x6 := cell_of_row w2 w.heap.size 6 _ _ _ k0
 have x7 := cell_of_row w2 w.heap.size 7 _ _ _ k0
 have K0 := Veil.mk k0
 have K1 := Veil.mk k1
 have K2 := Veil.mk k2
 have KT := Veil.mk kT
 have Kb := Veil.mk kb
 clear k0 k1 k2 kT kb
 go_wp2
 go_quiet (fail)
 go_wp2
 go_quiet (fail)
 clear x0 x1 x2 x3 x4 x5 x6 x7
 go_wp2
 go_loopw [6, 7, 8, 9, 10, 11, 12, 13, 14, 15, 16, 35] (fun a b c d e f g h _ _ _ i wr => ∃ n r : Nat, n ≤ 64 ∧ i = .int .i64 n ∧ wr = w2.drewN r ∧ ∃ st : S8, st = rounds8 s.data.toList ⟨va, vb, vc, vd, ve, vf, vg, vh⟩ n ∧ a = w32 st.a ∧ b = w32 st.b ∧ c = w32 st.c ∧ d = w32 st.d ∧ e = w32 st.e ∧ f = w32 st.f ∧ g = w32 st.g ∧ h = w32 st.h) (fun _ _ _ _ _ _ _ _ _ _ _ i _ => 64 - (intOf i).toNat)
 case atStart => exact ⟨0, _, by omega, rfl, World.drewN_drewN _ _ _, _, rfl, rfl, rfl, rfl, rfl, rfl, rfl, rfl, rfl⟩
 case round =>
  obtain ⟨n, r, hn, rfl, rfl, ⟨sa, sb, sc, sd, se, sf, sg, sh⟩, hst, rfl, rfl, rfl, rfl, rfl, rfl, rfl, rfl⟩ := hrel
  have Hst := Veil.mk hst; clear hst
  by_cases hlt : n < 64
  ·have cK : (w2.drewN r).cell? ⟨1, n, none⟩ = some (w32 (tabK.getD n 0)) := KT.out.1 n hlt
   have cW : (w2.drewN r).cell? ⟨bw, n, none⟩ = some (w32 ((sched s.data.toList).getD n 0)) := by
    show w2.cell? _ = _
    rw [cell_of_row w2 bw n _ _ _ K2.out]
    simp [List.getD_eq_getElem?_getD, List.getElem?_eq_getElem (show n < (sched s.data.toList).length from by rw [sched_length]; exact hlt)]
   generalize hk : tabK.getD n 0 = kn at cK
   generalize hx : (sched s.data.toList).getD n 0 = xn at cW
   have Hk := Veil.mk hk; clear hk
   have Hx := Veil.mk hx; clear hx
   generalize hwr : w2.drewN r = wr at cK cW ⊢
   have Hwr := Veil.mk hwr; clear hwr
   go_wp2
   go_quiet ((go_at_call 202; exact Calls.quiet_of_same ((turn_any _ _ _ (by omega) (by omega)).mono fun _ _ h => ⟨h.1, h.2.symm⟩)))
   go_wp2_with (go_at_call 202; refine (turn_any _ _ _ (by omega) (by omega)).mono ?_; rintro e w' ⟨rfl, rfl⟩)
   go_roundw
   case rel =>
    refine ⟨n + 1, _, by omega, by go_num, by rw [← Hwr.out]; exact World.drewN_drewN _ _ _, round8 kn xn ⟨sa, sb, sc, sd, se, sf, sg, sh⟩, ?_, ?_⟩
    ·rw [rounds8, ← Hst.out, Hk.out, Hx.out]
    ·exact ⟨rfl, rfl, rfl, rfl, rfl, rfl, rfl, rfl⟩
   case measure => simp [intOf]; omega
  ·have hn64 : 64 ≤ n := by omega
   have hm : mix8 ⟨va, vb, vc, vd, ve, vf, vg, vh⟩ s.data.toList = S8.add ⟨va, vb, vc, vd, ve, vf, vg, vh⟩ ⟨sa, sb, sc, sd, se, sf, sg, sh⟩ := by
    obtain rfl : n = 64 := by omega
    rw [mix8, ← Hst.out]
   have Hm := Veil.mk hm; clear hm hlt
   have k0 : (w2.drewN r).heap[w.heap.size]? = _ := K0.out
   have k1 : (w2.drewN r).heap[w.heap.size + 1]? = _ := K1.out
   have kb := belowDrewN Kb.out r
   generalize w2.drewN r = wr at k0 k1 kb ⊢
   have x0 := cell_of_row wr w.heap.size 0 _ _ _ k0
   have x1 := cell_of_row wr w.heap.size 1 _ _ _ k0
   have x2 := cell_of_row wr w.heap.size 2 _ _ _ k0
   have x3 := cell_of_row wr w.heap.size 3 _ _ _ k0
   have x4 := cell_of_row wr w.heap.size 4 _ _ _ k0
   have x5 := cell_of_row wr w.heap.size 5 _ _ _ k0
   have x6 := cell_of_row wr w.heap.size 6 _ _ _ k0
   have x7 := cell_of_row wr w.heap.size 7 _ _ _ k0
   have K1 := Veil.mk k1
   have Kb := Veil.mk kb
   clear k0 k1 kb
   have Hi : Veil (some 8 = some [w32 (va + sa), w32 (vb + sb), w32 (vc + sc), w32 (vd + sd), w32 (ve + se), w32 (vf + sf), w32 (vg + sg), w32 (vh + sh)].length) := ⟨rfl⟩
   go_wp2_with (refine st_all rfl _ (.tmp 4) (.tmp 130) rfl (w.heap.size + 1) rfl [w32 (va + sa), w32 (vb + sb), w32 (vc + sc), w32 (vd + sd), w32 (ve + se), w32 (vf + sf), w32 (vg + sg), w32 (vh + sh)] rfl K1.out (info8.trans Hi.out) rfl (by simp [Value.oneCell', w32]) ?_)
   refine bodyPost_ret (results_cell_row rfl _ _ (w.heap.size + 1) _ _ _ _ rfl (setRow_heap wr (w.heap.size + 1) _ _ _ _ K1.out) Tryz.underlying182 rfl (info8.trans Hi.out)) rfl ?_
   exact ⟨by rw [Hm.out]; rfl, belowSetRow Kb.out (by omega) _⟩
end Go.Proofs.YthbpbkbjdfcnjaaGreatDoor
namespace Go.Proofs.YthbpbkbjdfcnjaaGreatDoor
open Go.RowKit Sm
set_option maxRecDepth 100000
theorem elem8 : ElemOk Tryz.prog 157 5 1 1 := ElemOk.mk' (z := .int .u8 0) Tryz.underlying157 (by kernel_rfl) rfl (by omega)
def lenOf : Value → Nat | .slice _ n _ => n | _ => 0
set_option maxHeartbeats 1000000 in
theorem ending_any (s : ByteArray) (n : Int) (w : World) (hs : s.size ≤ 64) :
  Calls Tryz.prog 165 #[.string s, .int .i64 n] w fun e w' => e = .returned (.string ⟨(ending s.data.toList n).toArray⟩) ∧ Below w.heap.size w w' := by
 have hm : s.size ≤ maxLen := by unfold maxLen; omega
 go_enter Tryz.func165, Tryz.ntmps165
 go_wp2_with (first
  | (refine bytes_arm w rfl _ _ (.tmp 8) rfl 5 s rfl Tryz.underlying9 Tryz.underlying157 Tryz.underlying5 hm (base := w.heap.size) (Nat.le_refl _) ?_; intro v0 w0 own0 gr0 hx; clear hx)
  | (at_builtin; refine ap_lit w0 rfl _ _ _ rfl elem8 [.int .u8 128] own0 rfl rfl ?_ ?_ ?_ ?_ ?_))
 ·exact one1 rfl
 ·simp; omega
 ·simp; omega
 ·exact gr0.size
 intro v1 w1 own1 gr1
 have hb1 : Below w.heap.size w w1 := belowOwn ((Below.refl _ _).grown gr0 (Nat.le_refl _) (fun k hk => by cases hk)) gr1 own0 (Nat.le_refl _) gr0.size
 have own1' : Own w1 w.heap.size 5 1 v1 ((endZ s.data.toList 0).map w8) := by
  rw [show ((endZ s.data.toList 0).map w8) = s.data.toList.map w8 ++ [.int .u8 128] from by simp [endZ]; rfl]
  exact own1
 clear own0 gr0 gr1 own1
 have hl : s.data.toList.length = s.size := by simp
 generalize hs0 : s.data.toList = l at own1' hl ⊢
 have Hl := Veil.mk hl
 have Hs0 := Veil.mk hs0
 clear hl hs0
 go_wp2
 go_loopw [5] (fun v wr => ∃ (N z : Nat) (A : Option Addr) (c : Nat), v = .slice A N c ∧ Veil (N = l.length + 1 + z) ∧ z ≤ zerosN (l.length + 1) ∧ Own wr w.heap.size 5 1 (.slice A N c) ((endZ l z).map w8) ∧ Below w.heap.size w wr) (fun v _ => l.length + 1 + zerosN (l.length + 1) - lenOf v)
 case atStart =>
  obtain ⟨A, c, rfl⟩ := own1'.len1
  exact ⟨_, 0, A, c, rfl, ⟨by rw [List.length_map, endZ_length]⟩, Nat.zero_le _, own1', hb1⟩
 case round =>
  obtain ⟨N, z, A, c, rfl, HN, hz, hown, hb⟩ := hrel
  have hzl := zerosN_le (l.length + 1)
  have hNs : N ≤ 200 := by have := HN.out; have := Hl.out; omega
  have hmod : ((N : Int) % 64 != 56) = decide (z < zerosN (l.length + 1)) := by
   have h1 := zerosN_at (l.length + 1)
   have h2 := zerosN_before (l.length + 1) z
   rw [HN.out]
   by_cases hlt : z < zerosN (l.length + 1)
   ·have := h2 hlt
    simp only [hlt, decide_true, bne_iff_ne]
    omega
   ·obtain rfl : z = zerosN (l.length + 1) := by omega
    simp only [hlt, decide_false, bne_eq_false_iff_eq]
    omega
  have hle := hb.size
  by_cases hlt : z < zerosN (l.length + 1)
  ·have ht : ((N : Int) % 64 != 56) = true := by rw [hmod]; simpa using hlt
   clear hmod
   go_wp2_with (at_builtin; refine ap_lit wr rfl _ _ _ rfl elem8 [.int .u8 0] hown rfl rfl ?_ ?_ ?_ hle ?_; rotate_left 3; intro v' w' own' gr')
   rotate_left 1
   ·exact one1 rfl
   ·rw [List.length_map, endZ_length, ← HN.out]; simp; omega
   ·rw [List.length_map, endZ_length, ← HN.out]; simp; omega
   have hb' := belowOwn hb gr' hown (Nat.le_refl _) hle
   have own2 : Own w' w.heap.size 5 1 v' ((endZ l (z + 1)).map w8) := by rw [endZ_snoc, List.map_append]; exact own'
   clear own' gr' hown hb
   go_wp2
   go_roundw
   obtain ⟨A', c', rfl⟩ := own2.len1
   case rel => exact ⟨_, z + 1, A', c', rfl, ⟨by rw [List.length_map, endZ_length]⟩, by omega, own2, hb'⟩
   case measure =>
    obtain ⟨A', c', rfl⟩ := own2.len1
    simp only [lenOf, List.length_map, endZ_length]
    have := HN.out
    omega
  ·have ht : ((N : Int) % 64 != 56) = false := by rw [hmod]; simpa using hlt
   obtain rfl : z = zerosN (l.length + 1) := by omega
   clear hmod
   go_wp2
   go_loopw [5, 7] (fun v i wr => ∃ (M j : Nat) (A : Option Addr) (c : Nat), v = .slice A M c ∧ j ≤ 8 ∧ i = .int .i64 (56 - 8 * (j : Int)) ∧ Own wr w.heap.size 5 1 (.slice A M c) ((endZ l (zerosN (l.length + 1)) ++ beN (BitVec.ofInt 64 n * 8#64) j).map w8) ∧ Below w.heap.size w wr) (fun _ i _ => (intOf i + 8).toNat)
   case atStart => exact ⟨N, 0, A, c, rfl, by omega, rfl, by simpa [beN] using hown, hb⟩
   case round =>
    obtain ⟨M, j, A', c', rfl, hj, rfl, hown, hb⟩ := hrel
    have hle := hb.size
    have hlen : (endZ l (zerosN (l.length + 1)) ++ beN (BitVec.ofInt 64 n * 8#64) j).length ≤ 200 := by
     rw [List.length_append, endZ_length]
     have : (beN (BitVec.ofInt 64 n * 8#64) j).length ≤ 8 := by simp [beN, be8]; omega
     have := Hl.out
     omega
    by_cases hlt : j < 8
    ·have hge : (0 : Int) ≤ 56 - 8 * (j : Int) := by omega
     go_wp2_with (at_builtin; refine ap_lit wr rfl _ _ _ rfl elem8 [_] hown rfl rfl ?_ ?_ ?_ hle ?_; rotate_left 3; intro v' w' own' gr')
     rotate_left 1
     ·exact one1 rfl
     ·rw [List.length_map]; simp only [List.length_singleton]; omega
     ·rw [List.length_map]; simp only [List.length_singleton]; omega
     have hb' := belowOwn hb gr' hown (Nat.le_refl _) hle
     have own2 : Own w' w.heap.size 5 1 v' ((endZ l (zerosN (l.length + 1)) ++ beN (BitVec.ofInt 64 n * 8#64) (j + 1)).map w8) := by
      rw [beN_snoc _ _ hlt, ← List.append_assoc, List.map_append]; exact own'
     clear own' gr' hown hb
     obtain ⟨A2, c2, rfl⟩ := own2.len1
     go_wp2
     go_roundw
     case rel => exact ⟨_, j + 1, A2, c2, rfl, by omega, by go_num, own2, hb'⟩
     case measure => simp [intOf]; omega
    ·obtain rfl : j = 8 := by omega
     have hc := str_run (P := Tryz.prog) wr 157 9 5 Tryz.underlying157 Tryz.underlying5 Tryz.underlying9 hown.rd
     go_wp2
     go_ret
     exact ⟨by rw [Hs0.out]; rfl, hb⟩
end Go.Proofs.YthbpbkbjdfcnjaaGreatDoor
namespace Go.Proofs.YthbpbkbjdfcnjaaGreatDoor
open Go.RowKit Sm
set_option maxRecDepth 100000
theorem idx8 (st : S8) (j : Nat) (hj : j < 8) : ∀ W : World, (Instr.index 182 (.agg st.cells.toArray) (.int .i64 (j : Int))).run Tryz.prog W = .ok (w32 (st.list.getD j 0)) W := by
 intro W
 rcases j with _ | _ | _ | _ | _ | _ | _ | _ | j
 all_goals first | omega | kernel_rfl
theorem keep1 {w w1 : World} {g : Nat} {o : Obj} (hb : Below w.drew.heap.size w.drew w1) (hlt : g < w.heap.size) (h : w.heap[g]? = some o) : w1.heap[g]? = some o := (hb.block g hlt).trans h
set_option maxRecDepth 100000 in
set_option maxHeartbeats 400000 in
theorem sha_any (s : ByteArray) (w : World) (hs : s.size ≤ 9223372036854775807) (hT : Tabs w) :
  Calls Tryz.prog 108 #[.string s] w fun e w' => e = .returned (.string ⟨(sha s.data.toList).toArray⟩) ∧ Below w.heap.size w w' := by
 have HT := Veil.mk hT
 have HI : Veil (∀ j u, init8.cells[j]? = some u → w.cell? ⟨0, 0 + j, none⟩ = some u) := ⟨fun j u hu => by
  rw [Nat.zero_add]
  have hj : j < 8 := (List.getElem?_eq_some_iff.1 hu).1
  rw [hT.2 j hj]
  rw [← hu]
  rcases j with _ | _ | _ | _ | _ | _ | _ | _ | j
  all_goals first | omega | rfl⟩
 clear hT
 have Hc8 : Veil (∀ (st : S8) j u, st.cells[j]? = some u → st.cells.toArray[0 + j]? = some u) := ⟨fun st j u hu => by simpa using hu⟩
 have Ho8 : Veil (∀ (st : S8), ∀ u ∈ st.cells, u.oneCell' = true) := ⟨fun st u hu => by
  simp only [S8.cells, List.mem_cons, List.not_mem_nil, or_false] at hu
  rcases hu with rfl | rfl | rfl | rfl | rfl | rfl | rfl | rfl <;> rfl⟩
 go_enter Tryz.func108, Tryz.ntmps108
 go_wp2_with (first
  | (refine ld_cells rfl _ (.global 0) rfl 0 0 rfl Tryz.underlying182 rfl init8.cells info8 HI.out ?_)
  | (refine st_new _ rfl _ (.tmp 3) (.tmp 8) rfl rfl init8.cells rfl info8 rfl (Ho8.out _) ?_))
 have k0 := heap_alloc_new w (.cells init8.cells.toArray 182)
 have b0 := (Below.refl w.heap.size w).alloc (Nat.le_refl _) (.cells init8.cells.toArray 182)
 generalize w.alloc (.cells init8.cells.toArray 182) = w2 at k0 b0 ⊢
 go_loopw [4] (fun r wr => ∃ (n : Nat) (x : ByteArray), r = .string x ∧ x.size ≤ 9223372036854775807 ∧ Veil (x.data.toList = s.data.toList.drop (64 * n)) ∧ 64 * n ≤ s.size ∧ wr.heap[w.heap.size]? = some (.cells (absorb s.data.toList init8 n).cells.toArray 182 (0, 0)) ∧ Below w.heap.size w wr) (fun r _ => match r with | .string x => x.size | _ => 0)
 case atStart => exact ⟨0, s, rfl, hs, ⟨by simp⟩, by omega, k0, b0⟩
 case round =>
  obtain ⟨n, x, rfl, hx, Hx, hn, k, hb⟩ := hrel
  have hxl : x.size = s.size - 64 * n := by have := congrArg List.length Hx.out; simpa using this
  have Hxl := Veil.mk hxl; clear hxl
  have HTr := Veil.mk (HT.out.below hb (Nat.le_refl _))
  have K := Veil.mk k; clear k
  have Hb := Veil.mk hb; clear hb
  by_cases hlt : 64 ≤ x.size
  ·go_wp2
   have hgl := (Array.getElem?_eq_some_iff.1 K.out).1
   refine wp_region_still_tail 3 (by kernel_rfl) (by kernel_rfl) ?_
   simp only [List.take_succ_cons, List.take_zero, List.drop_succ_cons, List.drop_zero]
   refine still_ld_row rfl _ (.tmp 3) rfl w.heap.size 0 rfl K.out Tryz.underlying182 rfl (absorb s.data.toList init8 n).cells (info8.trans (congrArg some (cells_length _).symm)) (Hc8.out _) ?_
   repeat still_step
   refine wpStill_nil ?_
   change wpList _ _ _ _ _ wr.drew
   go_wp2_with (first
    | (go_at_call 164; refine (mix_any (absorb s.data.toList init8 n) _ _ (size64 x hlt) HTr.out.drew).mono ?_; rintro e w1 ⟨rfl, hb1⟩; generalize hs2 : mix8 (absorb s.data.toList init8 n) (x.extract 0 64).data.toList = st2; have Hs2 := Veil.mk hs2; clear hs2; have hk1 := Veil.mk (keep1 hb1 hgl K.out); have Hb1 := Veil.mk hb1; clear hb1)
    | (refine st_all rfl _ (.tmp 3) (.tmp 16) rfl w.heap.size rfl st2.cells rfl hk1.out (info8.trans (congrArg some (cells_length st2).symm)) (cells_fit st2 _) (Ho8.out _) ?_))
   have hk := Veil.mk (setRow_heap w1 w.heap.size _ st2.cells.toArray _ _ hk1.out)
   have hbe := Veil.mk (belowSetRow (Hb.out.drew.trans (Hb1.out.mono Hb.out.size)) (Nat.le_refl _) st2.cells.toArray)
   generalize w1.setRow w.heap.size st2.cells.toArray = w3 at hk hbe ⊢
   go_roundw
   case rel =>
    have hx64 := drop64 x x.size (Nat.le_refl _)
    refine ⟨n + 1, _, rfl, ?_, ⟨?_⟩, ?_, ?_, hbe.out⟩
    ·rw [ByteArray.size_extract]; omega
    ·rw [hx64, Hx.out, List.drop_drop]; congr 1
    ·have := Hxl.out; omega
    ·rw [absorb]
     rw [← Hx.out, ← take64, Hs2.out]
     exact hk.out
   case measure => simp only [ByteArray.size_extract]; omega
  ·have hnq : s.size / 64 = n := by have := Hxl.out; omega
   have Hnq := Veil.mk hnq; clear hnq
   generalize hst : absorb s.data.toList init8 n = st1
   have Hst := Veil.mk hst; clear hst
   go_wp2_with (go_at_call 165; refine (ending_any x _ _ (by omega)).mono ?_; rintro e w1 ⟨rfl, hb1⟩)
   have hblk := ending_blocks x.data.toList s.size
   have htl := ending_length x.data.toList s.size
   generalize hT : Sm.ending x.data.toList s.size = T at hblk htl ⊢
   have HTl := Veil.mk hT; clear hT
   have hk1 := Veil.mk ((hb1.block _ ((Array.getElem?_eq_some_iff.1 K.out).1)).trans K.out)
   have hb1' := Veil.mk (Hb.out.trans (hb1.mono Hb.out.size))
   have hTs : T.length ≤ 300 := by
    have := zerosN_le (x.data.toList.length + 1)
    have : x.data.toList.length = x.size := by simp
    omega
   clear hb1 htl
   have Hblk := Veil.mk hblk; clear hblk
   go_loopw [4] (fun r wr => ∃ (n : Nat) (x : ByteArray), r = .string x ∧ x.size ≤ 300 ∧ Veil (x.data.toList = T.drop (64 * n)) ∧ 64 * n ≤ T.length ∧ Veil (wr.heap[w.heap.size]? = some (.cells (absorb T st1 n).cells.toArray 182 (0, 0))) ∧ Veil (Below w.heap.size w wr)) (fun r _ => match r with | .string x => x.size | _ => 0)
   case atStart => exact ⟨0, _, rfl, by simpa [ByteArray.size] using hTs, ⟨by simp⟩, by omega, ⟨by rw [absorb, ← Hst.out]; exact hk1.out⟩, hb1'⟩
   case round =>
    obtain ⟨m, y, rfl, hy, Hy, hm, K, Hb⟩ := hrel
    have hyl : y.size = T.length - 64 * m := by have := congrArg List.length Hy.out; simpa using this
    have Hyl := Veil.mk hyl; clear hyl
    have HTr := Veil.mk (HT.out.below Hb.out (Nat.le_refl _))
    by_cases hlt : 0 < y.size
    ·have h64 : 64 ≤ y.size := by have := Hyl.out; have := Hblk.out; omega
     have hem := nonempty_of hlt
     have h64i : (64 : Int) ≤ y.size := by omega
     have hgl := (Array.getElem?_eq_some_iff.1 K.out).1
     go_wp2
     refine wp_region_still_tail 3 (by kernel_rfl) (by kernel_rfl) ?_
     simp only [List.take_succ_cons, List.take_zero, List.drop_succ_cons, List.drop_zero]
     refine still_ld_row rfl _ (.tmp 3) rfl w.heap.size 0 rfl K.out Tryz.underlying182 rfl (absorb T st1 m).cells (info8.trans (congrArg some (cells_length _).symm)) (Hc8.out _) ?_
     repeat still_step
     refine wpStill_nil ?_
     change wpList _ _ _ _ _ wr.drew
     go_wp2_with (first
      | (go_at_call 164; refine (mix_any (absorb T st1 m) _ _ (size64 y h64) HTr.out.drew).mono ?_; rintro e w1 ⟨rfl, hb1⟩; generalize hs2 : mix8 (absorb T st1 m) (y.extract 0 64).data.toList = st2; have Hs2 := Veil.mk hs2; clear hs2; have hk1 := Veil.mk (keep1 hb1 hgl K.out); have Hb1 := Veil.mk hb1; clear hb1)
      | (refine st_all rfl _ (.tmp 3) (.tmp 30) rfl w.heap.size rfl st2.cells rfl hk1.out (info8.trans (congrArg some (cells_length st2).symm)) (cells_fit st2 _) (Ho8.out _) ?_))
     have hk := Veil.mk (setRow_heap w1 w.heap.size _ st2.cells.toArray _ _ hk1.out)
     have hbe := Veil.mk (belowSetRow (Hb.out.drew.trans (Hb1.out.mono Hb.out.size)) (Nat.le_refl _) st2.cells.toArray)
     generalize w1.setRow w.heap.size st2.cells.toArray = w3 at hk hbe ⊢
     go_roundw
     case rel =>
      have hx64 := drop64 y y.size (Nat.le_refl _)
      refine ⟨m + 1, _, rfl, ?_, ⟨?_⟩, ?_, ⟨?_⟩, hbe⟩
      ·rw [ByteArray.size_extract]; omega
      ·rw [hx64, Hy.out, List.drop_drop]; congr 1
      ·have := Hyl.out; omega
      ·rw [absorb]
       rw [← Hy.out, ← take64, Hs2.out]
       exact hk.out
     case measure => simp only [ByteArray.size_extract]; omega
    ·have hem := empty_of hlt
     have hmq : T.length / 64 = m := by have := Hyl.out; omega
     have hfin : shaState s.data.toList = absorb T st1 m := by
      have hsl : s.data.toList.length = s.size := by simp
      rw [shaState, hsl, Hnq.out, Hst.out, ← hmq, ← HTl.out, Hx.out]
     have Hfin := Veil.mk hfin; clear hfin hmq
     have hgl := (Array.getElem?_eq_some_iff.1 K.out).1
     generalize hst : absorb T st1 m = st at K Hfin
     clear hst
     have H32 : Veil ((32 : Nat) ≤ maxLen) := ⟨by unfold maxLen; omega⟩
     have hmk : ∀ W : World, (Instr.makeSlice 157 (.int .i64 0) (.int .i64 32)).run Tryz.prog W = .ok (.slice (some ⟨W.heap.size, 0, none⟩) 0 32) (W.alloc (.cells #[.int .u8 0, .int .u8 0, .int .u8 0, .int .u8 0, .int .u8 0, .int .u8 0, .int .u8 0, .int .u8 0, .int .u8 0, .int .u8 0, .int .u8 0, .int .u8 0, .int .u8 0, .int .u8 0, .int .u8 0, .int .u8 0, .int .u8 0, .int .u8 0, .int .u8 0, .int .u8 0, .int .u8 0, .int .u8 0, .int .u8 0, .int .u8 0, .int .u8 0, .int .u8 0, .int .u8 0, .int .u8 0, .int .u8 0, .int .u8 0, .int .u8 0, .int .u8 0] 5)) := fun _ => by kernel_rfl
     go_wp2_with (refine ld_row rfl _ (.tmp 3) rfl w.heap.size 0 rfl ((heap_alloc_old _ _ hgl).trans K.out) Tryz.underlying182 rfl st.cells (info8.trans (congrArg some (cells_length _).symm)) (Hc8.out _) ?_)
     have own0 : Own (wr.alloc (.cells #[.int .u8 0, .int .u8 0, .int .u8 0, .int .u8 0, .int .u8 0, .int .u8 0, .int .u8 0, .int .u8 0, .int .u8 0, .int .u8 0, .int .u8 0, .int .u8 0, .int .u8 0, .int .u8 0, .int .u8 0, .int .u8 0, .int .u8 0, .int .u8 0, .int .u8 0, .int .u8 0, .int .u8 0, .int .u8 0, .int .u8 0, .int .u8 0, .int .u8 0, .int .u8 0, .int .u8 0, .int .u8 0, .int .u8 0, .int .u8 0, .int .u8 0, .int .u8 0] 5)) w.heap.size 5 1 (.slice (some ⟨wr.heap.size, 0, none⟩) 0 32) [] := Own.made Hb.out.size H32.out rfl
     have hb3 := Hb.out.alloc Hb.out.size (.cells #[.int .u8 0, .int .u8 0, .int .u8 0, .int .u8 0, .int .u8 0, .int .u8 0, .int .u8 0, .int .u8 0, .int .u8 0, .int .u8 0, .int .u8 0, .int .u8 0, .int .u8 0, .int .u8 0, .int .u8 0, .int .u8 0, .int .u8 0, .int .u8 0, .int .u8 0, .int .u8 0, .int .u8 0, .int .u8 0, .int .u8 0, .int .u8 0, .int .u8 0, .int .u8 0, .int .u8 0, .int .u8 0, .int .u8 0, .int .u8 0, .int .u8 0, .int .u8 0] 5)
     go_loopw [5, 7, 33] (fun v _ i wx => ∃ j : Nat, j ≤ 8 ∧ i = .int .i64 j ∧ Own wx w.heap.size 5 1 v (((st.list.take j).flatMap be4).map w8) ∧ Below w.heap.size w wx) (fun _ _ i _ => 8 - (intOf i).toNat)
     case atStart => exact ⟨0, by omega, rfl, own0, hb3⟩
     case round =>
      obtain ⟨j, hj, rfl, hown, hbx⟩ := hrel
      have hle := hbx.size
      by_cases hlt : j < 8
      ·have hi := idx8 st j hlt
       have hlen : ((st.list.take j).flatMap be4).length ≤ 32 := by
        rcases j with _ | _ | _ | _ | _ | _ | _ | _ | j
        all_goals first | (simp [S8.list, be4]; done) | omega
       generalize hxj : st.list.getD j 0 = xj at hi
       have Hxj := Veil.mk hxj; clear hxj
       have Hlen := Veil.mk hlen; clear hlen
       go_wp2_with (at_builtin; refine ap_lit wr rfl _ _ _ rfl elem8 [_, _, _, _] hown rfl rfl ?_ ?_ ?_ hle ?_; rotate_left 3; intro v' w' own' gr')
       rotate_left 1
       ·exact oneCell_map8 (be4 xj)
       ·rw [List.length_map]; have := Hlen.out; simp only [List.length_cons, List.length_nil]; omega
       ·rw [List.length_map]; have := Hlen.out; simp only [List.length_cons, List.length_nil]; omega
       have own2 : Own w' w.heap.size 5 1 v' (((st.list.take (j + 1)).flatMap be4).map w8) := by
        rw [digest_snoc _ _ hlt, List.map_append, Hxj.out]; exact own'
       have hb' := belowOwn hbx gr' hown (Nat.le_refl _) hle
       clear own' gr' hown hbx
       go_wp2
       go_roundw
       case rel => exact ⟨j + 1, by omega, by go_num, own2, hb'⟩
       case measure => simp [intOf]; omega
      ·obtain rfl : j = 8 := by omega
       have hc := str_run (P := Tryz.prog) wr 157 9 5 Tryz.underlying157 Tryz.underlying5 Tryz.underlying9 hown.rd
       go_wp2
       go_ret
       exact ⟨by rw [sha, Hfin.out]; rfl, hbx⟩
end Go.Proofs.YthbpbkbjdfcnjaaGreatDoor
namespace Go.Proofs.YthbpbkbjdfcnjaaGreatDoor
open Go.RowKit Sm
set_option maxRecDepth 100000
theorem num_any (s : ByteArray) (w : World) (hs : s.size ≤ 9223372036854775807) :
  Calls Tryz.prog 130 #[.string s] w fun e w' => e = .returned (.int .i64 (num s.data.toList)) ∧ w = w' := by
 go_enter Tryz.func130, Tryz.ntmps130
 go_wp2
 go_loop [3, 4, 5] (fun r _ i => ∃ k : Nat, k ≤ 8 ∧ i = .int .i64 k ∧ r = w64 (BitVec.ofNat 64 (nat8 s.data.toList k))) (fun _ _ i => 8 - (intOf i).toNat)
 case atStart => exact ⟨0, by omega, rfl, rfl⟩
 case round =>
  obtain ⟨k, hk, rfl, rfl⟩ := hrel
  by_cases hlt : k < 8
  ·have st := num_step s.data.toList k hlt
   have sk := num_skip s.data.toList k hlt
   have ek : ∀ (h : k < s.size), s.data.toList.getD k 0 = s[k] := by
    intro h
    rw [List.getD_eq_getElem?_getD, List.getElem?_eq_getElem (by simpa using h)]; rfl
   generalize hn : BitVec.ofNat 64 (nat8 s.data.toList k) = n at st sk
   have Hn := Veil.mk hn
   have St := Veil.mk st
   have Sk := Veil.mk sk
   have Ek := Veil.mk ek
   clear hn st sk ek
   by_cases hl : k < s.size
   ·go_wp2
    go_round
    case rel => exact ⟨k + 1, by omega, by go_num, by rw [← St.out, Ek.out hl]⟩
    case measure => simp [intOf]; omega
   ·go_wp2
    go_round
    case rel => exact ⟨k + 1, by omega, by go_num, by rw [← Sk.out (by simp; omega)]⟩
    case measure => simp [intOf]; omega
  ·obtain rfl : k = 8 := by omega
   have e := num_end s.data.toList
   generalize hn : BitVec.ofNat 64 (nat8 s.data.toList 8) = n at e ⊢
   clear hn
   have E := Veil.mk e; clear e
   go_wp2
   go_ret
   exact ⟨ret_int E.out, rfl⟩
@[go_sem] theorem index_w8 {P : Program} (w : World) (t : TypeId) (s : ByteArray) (b : UInt8) (h : P.underlying t = some .string) :
  (Instr.index t (.string s) (w8 b)).run P w = if hi : b.toNat < s.size then .ok (w8 (s[b.toNat]'hi)) w else (boundsPanic .u8 b.toNat s.size .index).run P w := by
 show (Instr.index t (.string s) (.int .u8 _)).run P w = _
 rw [run_index_string w t s .u8 _ h]
 by_cases hi : b.toNat < s.size
 ·rw [dif_pos hi, dif_pos ⟨by omega, by omega⟩]; rfl
 ·rw [dif_neg hi, dif_neg (by omega)]
end Go.Proofs.YthbpbkbjdfcnjaaGreatDoor
end
section
namespace Go.Proofs.YthbpbkbjdfcnjaaGreatDoor.Sm
end Go.Proofs.YthbpbkbjdfcnjaaGreatDoor.Sm
namespace Go.Proofs.YthbpbkbjdfcnjaaGreatDoor
open Go
section
variable {P : Program} {t : TypeId}
theorem quo32 (a b : BitVec 32) (h : b.toNat ≠ 0) : binOp .quo t (w32 a) (w32 b) = pure (w32 (a / b)) := by
 show binOp .quo t (.int .u32 _) (.int .u32 _) = _
 rw [binOp_quo]
 have ha := a.isLt
 have hz' : ¬ (b.toNat : Int) = 0 := by omega
 unfold w32
 rw [BitVec.toNat_udiv]
 have hd : a.toNat / b.toNat < 4294967296 := Nat.lt_of_le_of_lt (Nat.div_le_self _ _) ha
 simp only [Op.intDiv, if_neg hz', IntKind.wrap_u32']
 congr 2
 rw [← Int.ofNat_tdiv]
 generalize a.toNat / b.toNat = q at hd ⊢
 omega
theorem rem32 (a b : BitVec 32) (h : b.toNat ≠ 0) : binOp .rem t (w32 a) (w32 b) = pure (w32 (a % b)) := by
 show binOp .rem t (.int .u32 _) (.int .u32 _) = _
 rw [binOp_rem]
 have hz' : ¬ (b.toNat : Int) = 0 := by omega
 unfold w32
 rw [BitVec.toNat_umod]
 simp only [Op.intDiv, if_neg hz']
 congr 2
@[go_sem] theorem quo32r (a : BitVec 32) (n : Nat) (h : n < 4294967296) (h0 : 0 < n) : binOp .quo t (w32 a) (.int .u32 (no_index (OfNat.ofNat n))) = pure (w32 (a / (BitVec.ofNat 32 n))) := by
 rw [lit32 n h, quo32]; rw [BitVec.toNat_ofNat, Nat.mod_eq_of_lt h]; omega
@[go_sem] theorem rem32r (a : BitVec 32) (n : Nat) (h : n < 4294967296) (h0 : 0 < n) : binOp .rem t (w32 a) (.int .u32 (no_index (OfNat.ofNat n))) = pure (w32 (a % (BitVec.ofNat 32 n))) := by
 rw [lit32 n h, rem32]; rw [BitVec.toNat_ofNat, Nat.mod_eq_of_lt h]; omega
end
namespace Sm
theorem rot_back (x : BitVec 32) (n : Int) (h0 : 0 < n) (h : n < 32) : (x >>> n.toNat ||| x <<< (32 - n).toNat) = rot x n.toNat := by
 rw [rot, BitVec.or_comm, show (32 - n).toNat = 32 - n.toNat from by omega]
theorem word4_nat (a b c d : Nat) (ha : a < 256) (hb : b < 256) (hc : c < 256) (hd : d < 256) :
  (((a * 2 ^ 24 % 2 ^ 32 ||| b * 2 ^ 16 % 2 ^ 32) ||| c * 2 ^ 8 % 2 ^ 32) ||| d) = a * 16777216 + b * 65536 + c * 256 + d := by
 rw [Nat.mod_eq_of_lt (show a * 2 ^ 24 < 2 ^ 32 from by omega), Nat.mod_eq_of_lt (show b * 2 ^ 16 < 2 ^ 32 from by omega), Nat.mod_eq_of_lt (show c * 2 ^ 8 < 2 ^ 32 from by omega)]
 rw [nat_join 24 (a * 2 ^ 24) (b * 2 ^ 16) (by omega) (by omega), nat_join 16 (a * 2 ^ 24 + b * 2 ^ 16) (c * 2 ^ 8) (by omega) (by omega), nat_join 8 (a * 2 ^ 24 + b * 2 ^ 16 + c * 2 ^ 8) d (by omega) (by omega)]
theorem mul_toNat (x : BitVec 32) (n : Nat) (hx : x.toNat < 256) (hn : n ≤ 16777216) : (x * BitVec.ofNat 32 n).toNat = x.toNat * n := by
 rw [BitVec.toNat_mul, BitVec.toNat_ofNat, Nat.mod_eq_of_lt (show n < 2 ^ 32 from by omega)]
 have h : x.toNat * n ≤ 255 * 16777216 := Nat.mul_le_mul (by omega) hn
 exact Nat.mod_eq_of_lt (by omega)
theorem add_toNat (x y : BitVec 32) (h : x.toNat + y.toNat < 4294967296) : (x + y).toNat = x.toNat + y.toNat := by
 rw [BitVec.toNat_add]
 exact Nat.mod_eq_of_lt (by omega)
theorem word4_sum (a b c d : UInt8) : bw a * 16777216#32 + bw b * 65536#32 + bw c * 256#32 + bw d = word4 a b c d := by
 have q : ∀ x : UInt8, (bw x).toNat = x.toNat := fun x => by
  have := x.toNat_lt
  unfold bw
  rw [BitVec.toNat_setWidth, UInt8.toNat_toBitVec, Nat.mod_eq_of_lt (by omega)]
 have ha := a.toNat_lt
 have hb := b.toNat_lt
 have hc := c.toNat_lt
 have hd := d.toNat_lt
 apply BitVec.eq_of_toNat_eq
 have m1 := mul_toNat (bw a) 16777216 (by rw [q]; exact ha) (by omega)
 have m2 := mul_toNat (bw b) 65536 (by rw [q]; exact hb) (by omega)
 have m3 := mul_toNat (bw c) 256 (by rw [q]; exact hc) (by omega)
 rw [q] at m1 m2 m3
 have s1 := add_toNat (bw a * 16777216#32) (bw b * 65536#32) (by rw [m1, m2]; omega)
 have s2 := add_toNat (bw a * 16777216#32 + bw b * 65536#32) (bw c * 256#32) (by rw [s1, m1, m2, m3]; omega)
 have s3 := add_toNat (bw a * 16777216#32 + bw b * 65536#32 + bw c * 256#32) (bw d) (by rw [s2, s1, m1, m2, m3, q]; omega)
 rw [s3, s2, s1, m1, m2, m3, q]
 unfold word4
 rw [BitVec.toNat_or, BitVec.toNat_or, BitVec.toNat_or, BitVec.toNat_shiftLeft, BitVec.toNat_shiftLeft, BitVec.toNat_shiftLeft, Nat.shiftLeft_eq, Nat.shiftLeft_eq, Nat.shiftLeft_eq, q, q, q, q]
 exact (word4_nat _ _ _ _ ha hb hc hd).symm
def padded (l : List UInt8) : List UInt8 := ending l l.length
theorem absorb_add (l : List UInt8) (st : S8) (n m : Nat) : absorb l st (n + m) = absorb (l.drop (64 * n)) (absorb l st n) m := by
 induction m with
 | zero => rfl
 | succ m ih => rw [← Nat.add_assoc, absorb, absorb, ih, List.drop_drop, show 64 * n + 64 * m = 64 * (n + m) from by omega]
theorem absorb_prefix (l r : List UInt8) (st : S8) (n : Nat) (h : 64 * n ≤ l.length) : absorb (l ++ r) st n = absorb l st n := by
 induction n with
 | zero => rfl
 | succ n ih =>
  rw [absorb, absorb, ih (by omega), List.drop_append_of_le_length (by omega), List.take_append_of_le_length (by rw [List.length_drop]; omega)]
theorem padded_split (l : List UInt8) : padded l = l.take (64 * (l.length / 64)) ++ ending (l.drop (64 * (l.length / 64))) l.length := by
 unfold padded ending
 have hz : zerosN ((l.drop (64 * (l.length / 64))).length + 1) = zerosN (l.length + 1) := by
  rw [List.length_drop]
  unfold zerosN
  omega
 rw [hz]
 simp only [← List.append_assoc, List.take_append_drop]
theorem padded_state (l : List UInt8) : absorb (padded l) init8 ((padded l).length / 64) = shaState l := by
 unfold shaState
 have hl : (l.take (64 * (l.length / 64))).length = 64 * (l.length / 64) := by rw [List.length_take]; omega
 have hs := padded_split l
 have hlen : (padded l).length / 64 = l.length / 64 + (ending (l.drop (64 * (l.length / 64))) l.length).length / 64 := by
  rw [hs, List.length_append, hl]
  omega
 rw [hlen, absorb_add]
 have e1 : (padded l).drop (64 * (l.length / 64)) = ending (l.drop (64 * (l.length / 64))) l.length := by
  rw [hs]
  exact List.drop_left' hl
 have e2 : absorb (padded l) init8 (l.length / 64) = absorb l init8 (l.length / 64) := by
  rw [hs, absorb_prefix _ _ _ _ (by omega)]
  have e := absorb_prefix (l.take (64 * (l.length / 64))) (l.drop (64 * (l.length / 64))) init8 (l.length / 64) (by rw [hl]; exact Nat.le_refl _)
  rw [List.take_append_drop] at e
  exact e.symm
 rw [e1, e2]
def outR (st : S8) (k : Nat) : List UInt8 := (List.range k).map fun i => wb (st.list.getD (i / 4) 0 >>> (24 - 8 * (i % 4)))
theorem outR_snoc (st : S8) (k : Nat) : outR st (k + 1) = outR st k ++ [wb (st.list.getD (k / 4) 0 >>> (24 - 8 * (k % 4)))] := by simp [outR, List.range_succ]
theorem outR_length (st : S8) (k : Nat) : (outR st k).length = k := by simp [outR]
theorem outR_all (st : S8) : outR st 32 = st.list.flatMap be4 := by
 obtain ⟨a, b, c, d, e, f, g, h⟩ := st
 have z : ∀ x : BitVec 32, x >>> 0 = x := fun x => by simp
 show [wb (a >>> 24), wb (a >>> 16), wb (a >>> 8), wb (a >>> 0), wb (b >>> 24), wb (b >>> 16), wb (b >>> 8), wb (b >>> 0), wb (c >>> 24), wb (c >>> 16), wb (c >>> 8), wb (c >>> 0), wb (d >>> 24), wb (d >>> 16), wb (d >>> 8), wb (d >>> 0), wb (e >>> 24), wb (e >>> 16), wb (e >>> 8), wb (e >>> 0), wb (f >>> 24), wb (f >>> 16), wb (f >>> 8), wb (f >>> 0), wb (g >>> 24), wb (g >>> 16), wb (g >>> 8), wb (g >>> 0), wb (h >>> 24), wb (h >>> 16), wb (h >>> 8), wb (h >>> 0)] = _
 simp only [z]
 rfl
end Sm
end Go.Proofs.YthbpbkbjdfcnjaaGreatDoor
namespace Go.Proofs.YthbpbkbjdfcnjaaGreatDoor.Sm
def addTo (r s : List (BitVec 32)) : Nat → List (BitVec 32)
 | 0 => r
 | k + 1 => (addTo r s k).set k ((addTo r s k).getD k 0 + s.getD k 0)
theorem addTo_length (r s : List (BitVec 32)) (k : Nat) : (addTo r s k).length = r.length := by
 induction k with
 | zero => rfl
 | succ k ih => rw [addTo, List.length_set, ih]
theorem addTo_all (r s : S8) : (addTo r.list s.list 8).map w32 = (s.add r).cells := by
 obtain ⟨a, b, c, d, e, f, g, h⟩ := r
 obtain ⟨a', b', c', d', e', f', g', h'⟩ := s
 show [w32 (a + a'), w32 (b + b'), w32 (c + c'), w32 (d + d'), w32 (e + e'), w32 (f + f'), w32 (g + g'), w32 (h + h')] = [w32 (a' + a), w32 (b' + b), w32 (c' + c), w32 (d' + d), w32 (e' + e), w32 (f' + f), w32 (g' + g), w32 (h' + h)]
 rw [BitVec.add_comm a, BitVec.add_comm b, BitVec.add_comm c, BitVec.add_comm d, BitVec.add_comm e, BitVec.add_comm f, BitVec.add_comm g, BitVec.add_comm h]
theorem cells_list (s : S8) : s.cells = s.list.map w32 := rfl
theorem list_length (s : S8) : s.list.length = 8 := rfl
theorem tabK_length : tabK.length = 64 := rfl
end Go.Proofs.YthbpbkbjdfcnjaaGreatDoor.Sm
end
