/- Several texts in one, without what this claim does not use (tools/shake.py). -/
import Derived.Test.YtlefikdjhnaapaaGreatDoorKc1
import Derived.Test.YtlefikdjhnaapaaGreatDoorKc2
import Derived.Test.YtlefikdjhnaapaaGreatDoorKc3
import Derived.Test.YtlefikdjhnaapaaGreatDoorKc4
import Derived.Test.YtlefikdjhnaapaaGreatDoorKc5
import Derived.Test.YtlefikdjhnaapaaGreatDoorKc6
import Derived.Test.YtlefikdjhnaapaaGreatDoorKc7
import Derived.Test.YtlefikdjhnaapaaGreatDoorKp1
import Derived.Deep.RegionHeld3
import Derived.Lib.DecodeN
import Derived.Below
import Derived.ChangeSame
import Derived.ProofKit
import Derived.OpenShut
import Derived.ShutString
import Derived.Deep.Strs
import Derived.SizedLaws
import Derived.Deep.Slices
import Derived.ChangeArms
import Derived.Lib.AppendStr
import Derived.RangeFuncNested
import Derived.RangeFuncRecord
import Derived.OrdersIn
import Derived.TacticsIn
import Derived.Shelf.Strings.Builder1
import Derived.Shelf.Strings.Builder2
import Derived.Shelf.Strings.OnBuilder
import Derived.Shelf.Small.Bits
import Derived.Shelf.Strconv.Itoa0
import Derived.Shelf.Bits.Mul64
import Derived.Ground.Names2Prog
import Derived.Shelf.Slices.Clone
import Derived.Ground.SlgnProg
import Derived.Shelf.SlicesE.Clone
import Derived.Test.YtlefikdjhnaapaaGreatDoorProg
import Derived.KernelRfl
import Derived.WalkKit
import Derived.WalkSpells
import Derived.WalkLawsBesides
import Derived.Laws.OwnMore
import Derived.Laws.IdiomStrings
import Derived.Deep.Draws
import Derived.Deep.OwnRows
import Derived.StillTailTactics
import Derived.MapKept
import Derived.Laws.MakeOwn
import Derived.Still
import Derived.Deep.LoopGhost
import Derived.Test.YtlefikdjhnaapaaGreatDoorChecked
import Derived.Lib.Hide
import Derived.BigRegion
import Derived.RegionTactic
import Derived.BigQuiet
import Derived.Deep.RegionLaw
import Derived.Laws.StructEq
import Derived.Laws.Strings
import Derived.Laws.PanicsMore
import Derived.Laws.Tables
set_option linter.unusedSectionVars false
set_option linter.unusedVariables false
set_option linter.unusedSimpArgs false
section
namespace Go.Proofs.YtlefikdjhnaapaaGreatDoor.Ql
open Go Co Sg Ac It Sl Wl
abbrev headF (k : Key) (server : Int) (F : List It.Entry) : Head := mkHead k server F (lastT F)
theorem lastT_in {F : List It.Entry} (h : Good F) : 0 ≤ lastT F ∧ lastT F ≤ 1099511627776 := by
 unfold lastT
 split
 ·decide
 ·rename_i e he
  exact wi_iff.1 (h.right e (List.mem_of_getLast? he)).1
theorem headF_ok {k : Key} {server : Int} {F : List It.Entry} (hk : k.right = true) (hs : 0 ≤ server ∧ server ≤ 19) (hl : F.length ≤ 1000000) (h : Good F) :
  (headF k server F).server = server ∧ (headF k server F).size = F.length ∧ (headF k server F).root = rootE F ∧ verifyH k.pub (headF k server F) = true := by
 obtain ⟨h1, _, h3⟩ := mkHead_right (l := F) (time := lastT F) hk hs (by omega) (lastT_in h)
 refine ⟨?_, ?_, ?_, h3⟩ <;> · unfold headF; rw [h1]
def Grow (Fs : List (List It.Entry)) (cur : List It.Entry) : Prop := (Fs ++ [cur]).Pairwise (· <+: ·)
theorem Grow.nil (cur : List It.Entry) : Grow [] cur := List.pairwise_singleton _ _
theorem Grow.pre {Fs : List (List It.Entry)} {cur : List It.Entry} (h : Grow Fs cur) : ∀ F ∈ Fs, F <+: cur := fun F hF => (List.pairwise_append.1 h).2.2 F hF cur (by simp)
theorem Grow.next {Fs : List (List It.Entry)} {cur cur' : List It.Entry} (h : Grow Fs cur) (hc : cur <+: cur') : Grow (Fs ++ [cur']) cur' := by
 have h1 := (List.pairwise_append.1 h).1
 refine List.pairwise_append.2 ⟨List.pairwise_append.2 ⟨h1, List.pairwise_singleton _ _, fun F hF G hG => ?_⟩, List.pairwise_singleton _ _, fun F hF G hG => ?_⟩
 ·rw [List.mem_singleton.1 hG]; exact (h.pre F hF).trans hc
 ·rw [List.mem_singleton.1 hG]
  rcases List.mem_append.1 hF with hF | hF
  ·exact (h.pre F hF).trans hc
  ·rw [List.mem_singleton.1 hF]; exact List.prefix_refl _
theorem Good.pre {E F : List It.Entry} (h : Good E) (hp : F <+: E) : Good F := by
 rw [List.prefix_iff_eq_take.1 hp]; exact h.take _
theorem take_pre (E : List It.Entry) {a b : Nat} (h : a ≤ b) : E.take a <+: E.take b := by
 rw [show a = min a b by omega, ← List.take_take]
 exact List.take_prefix _ _
theorem take_self_pre (E : List It.Entry) (a : Nat) {e : It.Entry} (h : a ≤ E.length) : (E ++ [e]).take a = E.take a := List.take_append_of_le_length h
end Go.Proofs.YtlefikdjhnaapaaGreatDoor.Ql
end
section
namespace Go.Proofs.YtlefikdjhnaapaaGreatDoor.Ql
open Go Co Sg Ac It Sl Wl
structure Stp where
 Do : Int
 Item : Int
 Now : Int
 Keep : List Int
structure Scr where
 seed : By
 server : Int
 items : List It.Item
 steps : List Stp
def pickN (n m : Int) : Int := if n.tmod m < 0 then n.tmod m + m else n.tmod m
theorem pickN_in {n m : Int} (hm : 0 < m) : 0 ≤ pickN n m ∧ pickN n m < m := by
 have h1 : -m < n.tmod m ∧ n.tmod m < m := by
  rcases Int.le_total 0 n with h | h
  ·rw [Int.tmod_eq_emod_of_nonneg h]
   have := Int.emod_nonneg n (show m ≠ 0 by omega)
   have := Int.emod_lt_of_pos n hm
   omega
  ·have e : n = -(-n) := by omega
   rw [e, Int.neg_tmod, Int.tmod_eq_emod_of_nonneg (by omega)]
   have := Int.emod_nonneg (-n) (show m ≠ 0 by omega)
   have := Int.emod_lt_of_pos (-n) hm
   omega
 unfold pickN
 split <;> omega
def pickI (l : List It.Item) (n : Int) : It.Item := l.getD (pickN n l.length).toNat item0
structure St where
 d : Dm.Dk
 E : List It.Entry
 fl : Nat
 Fs : List (List It.Entry)
def goS (server : Int) (k : Key) (items : List It.Item) (s : St) (x : Stp) : Dm.Dk × List It.Entry × Nat :=
 if pickN x.Do 8 ≤ 2 then ((saddD s.d 2 s.E (pickI items x.Item) x.Now).2.1, (saddD s.d 2 s.E (pickI items x.Item) x.Now).2.2, s.fl)
 else if pickN x.Do 8 ≤ 4 then ((Dm.flushD s.d 2).2, s.E, if (Dm.flushD s.d 2).1 = 0 then s.E.length else s.fl)
 else if pickN x.Do 8 = 5 then ((sopenD (Dm.lose (Dm.bring (Dm.crash s.d x.Keep)) 0) 2 server k).2.1, (sopenD (Dm.lose (Dm.bring (Dm.crash s.d x.Keep)) 0) 2 server k).2.2, (sopenD (Dm.lose (Dm.bring (Dm.crash s.d x.Keep)) 0) 2 server k).2.2.length)
 else if pickN x.Do 8 = 6 then (Dm.lose s.d 1, s.E, s.fl)
 else (s.d, s.E, s.fl)
def stepS (server : Int) (k : Key) (items : List It.Item) (s : St) (x : Stp) : St :=
 ⟨(goS server k items s x).1, (goS server k items s x).2.1, (goS server k items s x).2.2, s.Fs ++ [(goS server k items s x).2.1.take (goS server k items s x).2.2]⟩
def runS (server : Int) (k : Key) (items : List It.Item) (s : St) (l : List Stp) : St := l.foldl (stepS server k items) s
structure InvS (s : St) : Prop where
 q : QS s.d s.E s.fl
 g : Grow s.Fs (s.E.take s.fl)
section
variable {server : Int} {k : Key} {items : List It.Item} {s : St} {x : Stp}
theorem goS_spec (hs : 0 ≤ server ∧ server ≤ 19) (hk : k.right = true) (h : QS s.d s.E s.fl) :
  QS (goS server k items s x).1 (goS server k items s x).2.1 (goS server k items s x).2.2 ∧ s.E.take s.fl <+: (goS server k items s x).2.1.take (goS server k items s x).2.2 ∧ (goS server k items s x).2.1.length ≤ s.E.length + 1 := by
 unfold goS
 split
 ·unfold saddD
  split
  ·rename_i hc
   split
   ·exact ⟨h, List.prefix_refl _, Nat.le_succ _⟩
   ·rename_i hd
    rcases h.add hc.1 hc.2 hd with ⟨h1, h2⟩ | ⟨h1, h2⟩
    ·rw [if_pos h1]
     refine ⟨h2, ?_, by simp⟩
     show _ <+: List.take s.fl (s.E ++ _)
     rw [take_self_pre _ _ h.le]
     exact List.prefix_refl _
    ·rw [if_neg h1]
     exact ⟨h2, List.prefix_refl _, Nat.le_succ _⟩
  ·exact ⟨h, List.prefix_refl _, Nat.le_succ _⟩
 split
 ·rcases h.flush with ⟨h1, h2⟩ | ⟨h1, h2⟩
  ·rw [if_pos h1]
   exact ⟨h2, take_pre _ h.le, Nat.le_succ _⟩
  ·rw [if_neg h1]
   exact ⟨h2, List.prefix_refl _, Nat.le_succ _⟩
 split
 ·obtain ⟨d', j, h1, h2, h3, h4, _⟩ := h.reopen x.Keep hs hk
  rw [h3]
  have hl : (s.E.take j).length = j := by rw [List.length_take]; omega
  simp only [hl]
  refine ⟨h4, ?_, by omega⟩
  rw [List.take_take, Nat.min_self]
  exact take_pre _ h1
 split
 ·exact ⟨h.lose 1 (by decide), List.prefix_refl _, Nat.le_succ _⟩
 ·exact ⟨h, List.prefix_refl _, Nat.le_succ _⟩
theorem stepS_inv (hs : 0 ≤ server ∧ server ≤ 19) (hk : k.right = true) (h : InvS s) : InvS (stepS server k items s x) ∧ (stepS server k items s x).E.length ≤ s.E.length + 1 ∧ (stepS server k items s x).Fs.length = s.Fs.length + 1 := by
 obtain ⟨h1, h2, h3⟩ := goS_spec (items := items) (x := x) hs hk h.q
 exact ⟨⟨h1, h.g.next h2⟩, h3, by simp [stepS]⟩
theorem runS_inv (hs : 0 ≤ server ∧ server ≤ 19) (hk : k.right = true) : ∀ (l : List Stp) (s : St), InvS s → InvS (runS server k items s l) ∧ (runS server k items s l).E.length ≤ s.E.length + l.length ∧ (runS server k items s l).Fs.length = s.Fs.length + l.length
 | [], s, h => ⟨h, Nat.le_refl _, rfl⟩
 | x :: l, s, h => by
  obtain ⟨h1, h2, h3⟩ := stepS_inv (items := items) (x := x) hs hk h
  obtain ⟨h4, h5, h6⟩ := runS_inv hs hk l _ h1
  refine ⟨h4, ?_, ?_⟩
  ·show (runS server k items (stepS server k items s x) l).E.length ≤ _
   rw [List.length_cons]; omega
  ·show (runS server k items (stepS server k items s x) l).Fs.length = _
   rw [List.length_cons]; omega
theorem runS_snoc (l : List Stp) (x : Stp) : runS server k items s (l ++ [x]) = stepS server k items (runS server k items s l) x := by
 unfold runS; rw [List.foldl_append]; rfl
theorem begin_inv {d : Dm.Dk} (h : QS d [] 0) : InvS ⟨d, [], 0, []⟩ := ⟨h, Grow.nil _⟩
end
end Go.Proofs.YtlefikdjhnaapaaGreatDoor.Ql
end
section
namespace Go.Proofs.YtlefikdjhnaapaaGreatDoor.Pe
open Go Go.RowKit Co Sg Ac It Sl Wl Ql
set_option maxRecDepth 100000
set_option maxHeartbeats 4000000
theorem sopen_c (d d' : Dm.Dk) (f server : Int) (k : Key) (E : List It.Entry) (hk : k.right = true) (hr : -9223372036854775808 ≤ k.secret ∧ k.secret ≤ 9223372036854775807) (hs : 0 ≤ server ∧ server ≤ 19) (hf : 0 ≤ f ∧ f ≤ 6) (he : openD d f = (0, d')) (hp : rowsOf (Dm.peek d f).1 = rowsB E) (hb : (Dm.peek d f).1.length ≤ 16777216) (hg : Ql.Good E) (hl : E.length ≤ 1000000) :
  AC Tryz.prog 14 [.ptr 0 0, .it .i64 f, .it .i64 server, keyV k] [XD d] (.tup [.ptr 3 0, .it .i64 0]) (SG d' f server k E E.length) := by
 refine AC.enter2 [54, 70, 36, 46] [] Tryz.func14 rfl (by decide) (by decide) (Nat.le_of_ble_eq_true rfl) (by kernel_rfl) ?_; refine zev ?_
 have k1 := keyright_c k hr
 rw [hk] at k1
 have k2 := wopen_ok d f hf hb (by rw [he])
 rw [he, hp] at k2
 change AC _ _ _ _ _ (LG d' f (rowsB E)) at k2
 have k3 := wall_c d' f (rowsB E) (by rw [List.length_map]; omega)
 have k4 := stimes_c E (by omega)
 rw [hg.times] at k4
 have e1 : ¬ server < 0 := by omega
 have e2 : ¬ server ≥ 20 := by omega
 refine runf (an @e1 @e2) ?_
 refine cp k1 ?_
 refine runf (an @e1 @e2) ?_
 refine clo 0 k2 ?_
 refine run ?_
 refine clg 0 2 3 k3 ?_ (hl := ⟨by decide, by decide, by decide, rfl, rfl, by rw [List.length_map]; rfl⟩)
 refine run ?_
 have hsr : allSz 1 ((rowsB E).map AV.st) = true := allSz_map 1 AV.st (fun _ => rfl) _
 refine loop_mk' (fun m e S => e 12 = .ptr 5 0 ∧ e 48 = .sl .ro ((rowsB E).map .st) ∧ e 49 = .it .i64 (E.length : Int) ∧ ∃ (j : Nat) (T : Store), e 50 = .it .i64 (j : Int) ∧ S = (XD d' :: .cells [.it .i64 k.secret, .it .i64 k.pub] :: .cells [.ptr 0 0, .it .i64 f, .sl (.own 3) ((rowsB E).map .st)] :: .buf E.length 9 1 :: mapE ((E.take j).map dg) :: .cells [.ptr 2 0, .it .i64 server, .it .i64 k.secret, .it .i64 k.pub, .sl (.own 6) ((E.take j).map entryV), .mp 4, .it .i64 ((0 : Nat) : Int)] :: .buf j 84 50 :: T) ∧ j ≤ E.length ∧ m = E.length - j) E.length _ _ (Weak.reserveN 1 5 4 (es := []) (by rfl) (by rfl) 84 50) ⟨zsl, zsl, zsl, 0, [], zsl, rfl, Nat.zero_le _, rfl⟩ ?_
 rintro m e S ⟨s12, s48, s49, j, T, s50, rfl, hj, rfl⟩
 have hT1 : ∀ y : SObj, (T ++ [y])[T.length]? = some y := fun y => by simp
 have hT2 : ∀ y z : SObj, (T ++ [y]).set T.length z = T ++ [z] := fun y z => by simp
 by_cases hlt : j < E.length
 rotate_left
 ·obtain rfl : j = E.length := by omega
  rw [List.take_length]
  refine runf (an @s12 (an @s48 (an @s49 @s50))) ?_
  refine cp k4 ?_
  refine runf @s12 ?_
  refine ends_ret [0, 2, 3, 5, 6, 4] (by rfl) ?_ (by rfl) (by rfl) (by rfl)
  exact so_sub d' f server k E E.length _ T
 have hgx : (rowsB E)[j]? = some (entryB E[j]) := by rw [List.getElem?_map, List.getElem?_eq_getElem hlt]; rfl
 have hx := hg.right E[j] (List.getElem_mem hlt)
 have hbk := readEntry_back hx.1 hx.2
 have hel := entryB_len E[j]
 have kr := readEntry_c (entryB E[j]) (by omega)
 rw [hbk] at kr
 have kd := digest_c E[j].item (iz_right hx.2)
 have hnd : dg E[j] ∉ (E.take j).map dg := fun hm => by
  have h1 := hg.nodup
  have h2 : E.map dg = (E.take j).map dg ++ dg E[j] :: (E.drop (j + 1)).map dg := by
   rw [← List.map_cons, ← List.drop_eq_getElem_cons hlt, ← List.map_append, List.take_append_drop]
  rw [h2, List.nodup_append] at h1
  exact h1.2.2 _ hm _ (by simp) rfl
 have hkf := kfind_noS _ _ 0 hnd
 have f1 : mapE ((E.take (j + 1)).map dg) = .map (((E.take j).map dg).map (fun s => (AV.st s, AV.bo true)) ++ [(.st (dg E[j]), .bo true)]) := by
  rw [List.take_succ_eq_append_getElem hlt, List.map_append]
  simp
 have f2 : (E.take (j + 1)).map entryV = (E.take j).map entryV ++ [entryV E[j]] := by rw [List.take_succ_eq_append_getElem hlt, List.map_append]; rfl
 have hal : (E.take j).length = j := by rw [List.length_take]; omega
 have hsz := entries_sz (E.take j)
 have hft : fits (j + 1) 800 = true := by apply fits_ok <;> omega
 generalize E[j] = x at *
 refine runf (an @s12 (an @s48 (an @s49 (an @s50 (an @hgx (an @hsr (an @hT1 @hT2))))))) ?_
 refine cp kr ?_
 refine runf (an @hT1 @hT2) ?_
 refine cp kd ?_
 refine runf (an @s12 (an @s50 (an @hT1 (an @hT2 (an @hkf (an @hsz (an @hal @hft))))))) ?_
 exact round_mk (E.length - (j + 1)) (by omega) ⟨zsl, zsl, zsl, j + 1, _, zsl, (by rw [f1, f2]), by omega, rfl⟩
end Go.Proofs.YtlefikdjhnaapaaGreatDoor.Pe
end
section
namespace Go.Proofs.YtlefikdjhnaapaaGreatDoor.Pe
open Go Go.RowKit
variable [Tab]
def KeepR (κ : List Nat) (E e : Env) : Prop := ∀ t, E t = .junk ∨ ((E t).ok κ.length = true ∧ e t = (E t).ren (idx κ))
theorem KeepR.nil (κ : List Nat) (e : Env) : KeepR κ (fun _ => .junk) e := fun _ => .inl rfl
theorem KeepR.cons {κ : List Nat} {E e : Env} (h : KeepR κ E e) (t : Nat) (v u : AV) (hk : v.ok κ.length = true) (hu : v.ren (idx κ) = u) (hv : e t = u) : KeepR κ (upd E t v) e := fun x => by
 unfold upd
 by_cases hx : x = t
 ·rw [if_pos hx, hx]; exact .inr ⟨hk, hv.trans hu.symm⟩
 ·rw [if_neg hx]; exact h x
theorem Weak.sub (N0 : Nat) {E e : Env} {S S' : Store} (κ : List Nat) (hE : KeepR κ E e) (hs : SubOk κ S S') (hκ : κ.take N0 = List.range N0) : Weak N0 e S E S' := by
 rintro N w0 g0 a w hn ⟨h1, h2, g, h3, h4, h5⟩
 refine ⟨h1, h2, g.sub κ, h3.sub hs, fun t => ?_, ⟨h5.toEvo.sub hs.nodup (hs.lt h3) (by rw [hn]; exact hκ), ?_, ?_⟩⟩
 ·rcases hE t with e1 | ⟨e1, e2⟩
  ·rw [e1]; exact .junk _ _
  ·have := h4 t
   rw [e2] at this
   exact Rel.unren (un_sub w g κ) this e1
 ·intro d hd
  obtain ⟨b, k1, k2, k3, k4, k5⟩ := h5.defs d hd
  exact ⟨b, k1, k2, k3, k4, fun l hl ho => k5 (idx κ l) (hs.lt h3 l hl) ho⟩
 ·exact h5.nodup
end Go.Proofs.YtlefikdjhnaapaaGreatDoor.Pe
end
section
namespace Go.Proofs.YtlefikdjhnaapaaGreatDoor.Pe
open Go Go.RowKit Co Sg Ac It Sl Wl Ql
set_option maxRecDepth 100000
set_option maxHeartbeats 4000000
abbrev stepV (x : Stp) : AV := .agg [.it .i64 x.Do, .it .i64 x.Item, .it .i64 x.Now, ints .ro x.Keep]
abbrev scrV (s : Scr) : AV := .agg [.st s.seed, .it .i64 s.server, .sl .ro (s.items.map itemV), .sl .ro (s.steps.map stepV)]
structure Win15 (x : Stp) : Prop where
 D : -9223372036854775808 ≤ x.Do ∧ x.Do ≤ 9223372036854775807
 I : -9223372036854775808 ≤ x.Item ∧ x.Item ≤ 9223372036854775807
 N : -9223372036854775808 ≤ x.Now ∧ x.Now ≤ 9223372036854775807
 K : x.Keep.length ≤ 140737488351232
theorem pick15_c (n m : Int) (h : -9223372036854775808 ≤ n ∧ n ≤ 9223372036854775807) (hm : 0 < m ∧ m ≤ 100) : AC Tryz.prog 16 [.it .i64 n, .it .i64 m] [] (.it .i64 (pickN n m)) [] := by
 refine AC.enter [] [] Tryz.func16 rfl (by decide) (by decide) (Nat.le_of_ble_eq_true rfl) (by kernel_rfl) ?_; refine zev ?_
 have h0 := pickN_in (n := n) hm.1
 have h1 : -m < n.tmod m ∧ n.tmod m < m := by
  unfold pickN at h0
  have h2 := Int.lt_tmod_of_pos n hm.1
  split at h0 <;> omega
 have hw : IntKind.i64.wrap (n.tmod m) = n.tmod m := wrap64 (by omega) (by omega)
 have hw1 : n.tmod m < 0 → IntKind.i64.wrap (n.tmod m + m) = n.tmod m + m := fun _ => wrap64 (by omega) (by omega)
 have hmz : ¬ m = 0 := by omega
 refine runf (an @hw @hmz) ?_
 by_cases h0 : n.tmod m < 0
 ·have hw1 := hw1 h0
  rw [show pickN n m = n.tmod m + m from if_pos h0]
  refine runf (an @hw (an @hw1 @hmz)) ?_
  exact er0
 ·rw [show pickN n m = n.tmod m from if_neg h0]
  refine runf (an @hw @hmz) ?_
  exact er0
def totK : List Stp → Nat
 | [] => 0
 | x :: l => x.Keep.length + totK l
theorem totK_snoc (l : List Stp) (x : Stp) : totK (l ++ [x]) = totK l + x.Keep.length := by
 induction l with
 | nil => simp [totK]
 | cons y l ih => simp only [List.cons_append, totK, ih]; omega
theorem totK_le {l : List Stp} (h : ∀ x ∈ l, x.Keep.length ≤ 140737488351232) : totK l ≤ l.length * 140737488351232 := by
 induction l with
 | nil => simp [totK]
 | cons x l ih =>
  have := ih fun y hy => h y (by simp [hy])
  have := h x (by simp)
  simp only [totK, List.length_cons, Nat.succ_mul]; omega
def fewS (s : Scr) : Bool := decide (s.items.length ≤ 12) && (decide (s.steps.length ≤ 40) && decide (s.seed.length + totK s.steps ≤ 500))
theorem few15_c (s : Scr) (hl : s.steps.length ≤ 140737488351232) (hi : s.items.length ≤ 140737488351232) (hsd : s.seed.length ≤ 140737488351232) (h : ∀ x ∈ s.steps, Win15 x) : AC Tryz.prog 9 [scrV s] [] (.bo (fewS s)) [] := by
 refine AC.enter2 [10] [] Tryz.func9 rfl (by decide) (by decide) (Nat.le_of_ble_eq_true rfl) (by kernel_rfl) ?_; refine zev ?_
 have hsz : allSz 4 (s.steps.map stepV) = true := allSz_map 4 stepV (fun _ => rfl) _
 refine run ?_
 refine loop_mk (fun m e S => e 1 = .ptr 0 0 ∧ S = [.cells [.st s.seed, .it .i64 s.server, .sl .ro (s.items.map itemV), .sl .ro (s.steps.map stepV)]] ∧ ∃ (k : Nat) (v : Int), e 4 = .it .i64 (k : Int) ∧ e 3 = .it .i64 v ∧ (s.steps.length ≤ 40 → v = (s.seed.length + totK (s.steps.take k) : Nat)) ∧ k ≤ s.steps.length ∧ m = s.steps.length - k) s.steps.length ⟨zsl, rfl, 0, s.seed.length, zsl, zsl, fun _ => rfl, by omega, rfl⟩ ?_
 rintro m e S ⟨s1, rfl, k, v, s4, s3, hv, hk, rfl⟩
 by_cases hlt : k < s.steps.length
 ·have ga : s.steps[k]? = some s.steps[k] := List.getElem?_eq_getElem hlt
  have hb := h s.steps[k] (List.getElem_mem hlt)
  have hsn := totK_snoc (s.steps.take k) s.steps[k]
  rw [← List.take_succ_eq_append_getElem hlt] at hsn
  generalize s.steps[k] = x at *
  refine runf (an @s1 (an @s3 (an @s4 (an @ga @hsz)))) ?_
  refine round_mk (s.steps.length - (k + 1)) (by omega) ⟨zsl, rfl, k + 1, _, zsl, zsl, fun hl2 => ?_, by omega, rfl⟩
  have h1 := totK_le (l := s.steps.take k) (fun a ha => (h a (List.mem_of_mem_take ha)).K)
  have h2 : (s.steps.take k).length ≤ 40 := by rw [List.length_take]; omega
  have h3 : totK (s.steps.take k) ≤ 40 * 140737488351232 := Nat.le_trans h1 (Nat.mul_le_mul_right _ h2)
  have hK := hb.K
  have hv2 := hv hl2
  rw [hv2, hsn, wrap64 (by omega) (by omega)]
  omega
 obtain rfl : k = s.steps.length := by omega
 rw [List.take_length] at hv
 unfold fewS
 by_cases h12 : s.items.length ≤ 12
 rotate_left
 ·have e1 : ¬ (s.items.length : Int) ≤ 12 := by omega
  rw [decide_eq_false h12, Bool.false_and]
  refine runf (an @s1 (an @s3 (an @s4 @e1))) ?_
  exact er0
 have e1 : (s.items.length : Int) ≤ 12 := by omega
 rw [decide_eq_true h12, Bool.true_and]
 by_cases h40 : s.steps.length ≤ 40
 rotate_left
 ·have e2 : ¬ (s.steps.length : Int) ≤ 40 := by omega
  rw [decide_eq_false h40, Bool.false_and]
  refine runf (an @s1 (an @s3 (an @s4 (an @e1 @e2)))) ?_
  exact er0
 have e2 : (s.steps.length : Int) ≤ 40 := by omega
 rw [decide_eq_true h40, Bool.true_and]
 have hv := hv h40
 by_cases h500 : s.seed.length + totK s.steps ≤ 500
 rotate_left
 ·have e3 : ¬ v ≤ 500 := by omega
  rw [decide_eq_false h500]
  refine runf (an @s1 (an @s3 (an @s4 (an @e1 (an @e2 @e3))))) ?_
  exact er0
 have e3 : v ≤ 500 := by omega
 rw [decide_eq_true h500]
 refine runf (an @s1 (an @s3 (an @s4 (an @e1 (an @e2 @e3))))) ?_
 refine cp small15_c ?_
 refine run ?_
 exact er0
theorem keyS_range (s : By) : -9223372036854775808 ≤ (keySeed s).secret ∧ (keySeed s).secret ≤ 9223372036854775807 := by
 have := Key.right_iff.1 (keySeed_right s)
 omega
abbrev stepL (x : Stp) : List AV := [.it .i64 x.Do, .it .i64 x.Item, .it .i64 x.Now, ints .ro x.Keep]
abbrev scrL (s : Scr) : List AV := [.st s.seed, .it .i64 s.server, .sl .ro (s.items.map itemV), .sl .ro (s.steps.map stepV)]
abbrev PSt (s : Scr) (k : Key) (d : Dm.Dk) (E : List It.Entry) (fl n : Nat) : Store :=
 [XD d, .cells (scrL s), .cells [.it .i64 k.secret, .it .i64 k.pub], .cells [.ptr 0 0, .it .i64 2, .sl (.own 4) ((rowsB E).map .st)], .buf E.length 9 1,
 .cells [.ptr 3 0, .it .i64 s.server, .it .i64 k.secret, .it .i64 k.pub, .sl (.own 6) (E.map entryV), .mp 7, .it .i64 (fl : Int)], .buf E.length 84 50, mapE (E.map dg), .buf n 75 6, .buf n 68 1]
theorem pst_final (s : Scr) (k : Key) (d : Dm.Dk) (E : List It.Entry) (fl n : Nat) : SubOk [0, 3, 4, 5, 6, 7] (PSt s k d E fl n) (SG d 2 s.server k E fl) := ⟨by decide, rfl, fun i o hi => by
 match i, hi with
 | 0, hi => cases hi; exact ⟨rfl, rfl⟩
 | 1, hi => cases hi; exact ⟨rfl, rfl⟩
 | 2, hi => cases hi; exact ⟨rfl, rfl⟩
 | 3, hi => cases hi; exact ⟨rfl, rfl⟩
 | 4, hi => cases hi; exact ⟨rfl, rfl⟩
 | 5, hi => cases hi; exact ⟨mapE_ok _ _, congrArg some (mapE_ren _ _).symm⟩⟩
theorem pstA_sub (s : Scr) (k : Key) (d : Dm.Dk) (E : List It.Entry) (fl n : Nat) (T : Store) : SubOk (List.range 10) (PSt s k d E fl n ++ T) (PSt s k d E fl n) := ⟨by decide, rfl, fun i o hi => by
 match i, hi with
 | 0, hi => cases hi; exact ⟨rfl, rfl⟩
 | 1, hi => cases hi; exact ⟨rfl, rfl⟩
 | 2, hi => cases hi; exact ⟨rfl, rfl⟩
 | 3, hi => cases hi; exact ⟨rfl, rfl⟩
 | 4, hi => cases hi; exact ⟨rfl, rfl⟩
 | 5, hi => cases hi; exact ⟨rfl, rfl⟩
 | 6, hi => cases hi; exact ⟨rfl, rfl⟩
 | 7, hi => cases hi; exact ⟨mapE_ok _ _, congrArg some (mapE_ren _ _).symm⟩
 | 8, hi => cases hi; exact ⟨rfl, rfl⟩
 | 9, hi => cases hi; exact ⟨rfl, rfl⟩⟩
theorem pstB_sub (s : Scr) (k : Key) (d : Dm.Dk) (E : List It.Entry) (fl n : Nat) (o3 o4 o5 o6 o7 o10 o11 : SObj) : SubOk [0, 1, 2, 12, 13, 14, 15, 16, 8, 9] [XD d, .cells (scrL s), .cells [.it .i64 k.secret, .it .i64 k.pub], o3, o4, o5, o6, o7, .buf n 75 6, .buf n 68 1, o10, o11,
    .cells [.ptr 0 0, .it .i64 2, .sl (.own 13) ((rowsB E).map .st)], .buf E.length 9 1, .cells [.ptr 12 0, .it .i64 s.server, .it .i64 k.secret, .it .i64 k.pub, .sl (.own 15) (E.map entryV), .mp 16, .it .i64 (fl : Int)], .buf E.length 84 50, mapE (E.map dg)] (PSt s k d E fl n) := ⟨by decide, rfl, fun i o hi => by
 match i, hi with
 | 0, hi => cases hi; exact ⟨rfl, rfl⟩
 | 1, hi => cases hi; exact ⟨rfl, rfl⟩
 | 2, hi => cases hi; exact ⟨rfl, rfl⟩
 | 3, hi => cases hi; exact ⟨rfl, rfl⟩
 | 4, hi => cases hi; exact ⟨rfl, rfl⟩
 | 5, hi => cases hi; exact ⟨rfl, rfl⟩
 | 6, hi => cases hi; exact ⟨rfl, rfl⟩
 | 7, hi => cases hi; exact ⟨mapE_ok _ _, congrArg some (mapE_ren _ _).symm⟩
 | 8, hi => cases hi; exact ⟨rfl, rfl⟩
 | 9, hi => cases hi; exact ⟨rfl, rfl⟩⟩
theorem win_all {E : List It.Entry} {fl : Nat} (h : E.length ≤ 100) : windowE E fl 0 100 = E.take fl := by
 unfold windowE
 rw [if_neg (by decide)]
 show List.take 100 (List.drop 0 (E.take fl)) = _
 rw [List.drop_zero, List.take_of_length_le]
 rw [List.length_take]; omega
theorem played_c (s : Scr) (d0 : Dm.Dk) (ho : openD Dm.dk0 2 = (0, d0)) (hq : QS d0 [] 0) (hs : 0 ≤ s.server ∧ s.server ≤ 19) (hi : s.items.length ≤ 12) (hl : s.steps.length ≤ 40) (hsd : s.seed.length ≤ 500) (hx : ∀ x ∈ s.steps, Win15 x) (hz : ∀ i ∈ s.items, Iz i) (st : St) (hst : st = runS s.server (keySeed s.seed) s.items ⟨d0, [], 0, []⟩ s.steps) :
  AC Tryz.prog 33 [scrV s, .ptr 0 0] [XD Dm.dk0] (.tup [.ptr 3 0, headsV (st.Fs.map (headF (keySeed s.seed) s.server)), .sl .ro (st.Fs.map entriesV)]) (SG st.d 2 s.server (keySeed s.seed) st.E st.fl) := by
 refine AC.enter2 [11, 16] [] Tryz.func33 rfl (by decide) (by decide) (Nat.le_of_ble_eq_true rfl) (by kernel_rfl) ?_; refine zev ?_
 have kk := keySeed_c s.seed (by omega)
 have hkr := keySeed_right s.seed
 have hkk := keyS_range s.seed
 generalize hkey : keySeed s.seed = k at *
 have k1 := sopen_c Dm.dk0 d0 2 s.server k [] hkr hkk hs (by decide) ho rfl (by decide) Good.nil (by decide)
 refine run ?_
 refine cp kk ?_
 refine run ?_
 refine cso 0 k1 ?_
 refine run ?_
 have hszx : allSz 4 (s.steps.map stepV) = true := allSz_map 4 stepV (fun _ => rfl) _
 have hszi : allSz 49 (s.items.map itemV) = true := allSz_map 49 itemV (fun _ => rfl) _
 refine loop_mk' (fun m e S => e 1 = .ptr 0 0 ∧ e 2 = .ptr 1 0 ∧ e 7 = .ptr 2 0 ∧ e 9 = .it .i64 0 ∧ e 8 = .ptr 5 0 ∧ ∃ (j : Nat) (t : St), t = runS s.server k s.items ⟨d0, [], 0, []⟩ (s.steps.take j) ∧ e 10 = .sl (.own 8) ((t.Fs.map (headF k s.server)).map headV) ∧ e 11 = .sl (.own 9) (t.Fs.map entriesV) ∧ e 12 = .it .i64 (j : Int) ∧ S = PSt s k t.d t.E t.fl t.Fs.length ∧ j ≤ s.steps.length ∧ m = s.steps.length - j) s.steps.length _ _
  ((Weak.reserve 1 10 (es := []) (by rfl) 75 6).trans2 (Weak.reserve 1 11 (es := []) (by rfl) 68 1)) ⟨zsl, zsl, zsl, zsl, zsl, 0, _, rfl, zsl, zsl, zsl, rfl, Nat.zero_le _, rfl⟩ ?_
 clear k1
 rintro m e S ⟨s1, s2, s7, s9, s8, j, t, ht, s10, s11, s12, rfl, hj, rfl⟩
 obtain ⟨v1, v2, v3⟩ := runS_inv (k := k) (items := s.items) hs hkr (s.steps.take j) _ (begin_inv hq)
 rw [← ht] at v1 v2 v3
 have hjl : (s.steps.take j).length = j := by rw [List.length_take]; omega
 rw [hjl] at v2 v3
 simp only [List.length_nil, Nat.zero_add] at v2 v3
 by_cases hlt : j < s.steps.length
 rotate_left
 ·obtain rfl : j = s.steps.length := by omega
  rw [List.take_length] at ht
  obtain rfl : st = t := hst.trans ht.symm
  refine runf (an @s1 (an @s2 (an @s7 (an @s8 (an @s9 (an @s10 (an @s11 @s12))))))) ?_
  exact ends_retw [0, 3, 4, 5, 6, 7] (by rfl) (pst_final ..) (by rfl) (by rfl) (by rfl)
 have ga : s.steps[j]? = some s.steps[j] := List.getElem?_eq_getElem hlt
 have hxx := hx s.steps[j] (List.getElem_mem hlt)
 have hnx : runS s.server k s.items ⟨d0, [], 0, []⟩ (s.steps.take (j + 1)) = stepS s.server k s.items t s.steps[j] := by
  rw [List.take_succ_eq_append_getElem hlt, runS_snoc, ← ht]
 have hgo := goS_spec (items := s.items) (x := s.steps[j]) hs hkr v1.q
 generalize s.steps[j] = x at *
 refine AW_cut (fun e S => e 1 = .ptr 0 0 ∧ e 2 = .ptr 1 0 ∧ e 7 = .ptr 2 0 ∧ e 9 = .it .i64 0 ∧ e 8 = .ptr 5 0 ∧ e 10 = .sl (.own 8) ((t.Fs.map (headF k s.server)).map headV) ∧ e 11 = .sl (.own 9) (t.Fs.map entriesV) ∧ e 12 = .it .i64 (j : Int) ∧ S = PSt s k t.d t.E t.fl t.Fs.length) (fun Kt hK => ?_) ?_
 ·refine runf (an @s1 (an @s2 (an @s7 (an @s8 (an @s9 (an @s10 (an @s11 @s12))))))) ?_
  exact hK _ _ ⟨zsl, zsl, zsl, zsl, zsl, zsl, zsl, zsl, rfl⟩
 clear s1 s2 s7 s8 s9 s10 s11 s12
 rintro e S ⟨s1, s2, s7, s9, s8, s10, s11, s12, rfl⟩
 rw [AW_seq, AW_block, AW_assoc, AW_assoc]
 have hits : Iz (pickI s.items x.Item) := by
  unfold pickI
  rw [List.getD_eq_getElem?_getD]
  cases h : s.items[(pickN x.Item s.items.length).toNat]? with
  | none => exact ⟨szI0, by decide, by decide, dz0⟩
  | some i => exact hz i (List.mem_of_getElem? h)
 refine AW_cut (fun e S => e 1 = .ptr 0 0 ∧ e 2 = .ptr 1 0 ∧ e 7 = .ptr 2 0 ∧ e 9 = .it .i64 0 ∧ e 8 = .ptr 5 0 ∧ e 10 = .sl (.own 8) ((t.Fs.map (headF k s.server)).map headV) ∧ e 11 = .sl (.own 9) (t.Fs.map entriesV) ∧ e 12 = .it .i64 (j : Int) ∧ e 13 = .ptr 10 0 ∧ e 14 = .ptr 11 0 ∧ ∃ cs : List AV, cs.length = 49 ∧ (AV.agg cs).wk = itemV (pickI s.items x.Item) ∧ S = PSt s k t.d t.E t.fl t.Fs.length ++ [.cells (stepL x), .cells cs]) (fun Kt hK => ?_) ?_
 ·by_cases hne : s.items.length = 0
  ·have hnil : s.items = [] := List.eq_nil_of_length_eq_zero hne
   have hpi : pickI s.items x.Item = item0 := by rw [hnil]; rfl
   rw [hpi] at hK
   have e0 : ¬ (s.items.length : Int) > 0 := by omega
   refine runf (an @s1 (an @s2 (an @s7 (an @s8 (an @s9 (an @s10 (an @s11 (an @s12 (an @ga (an @hszx @e0)))))))))) ?_
   exact hK _ _ ⟨zsl, zsl, zsl, zsl, zsl, zsl, zsl, zsl, zsl, zsl, _, by rfl, by rfl, rfl⟩
  ·have e0 : (s.items.length : Int) > 0 := by omega
   have kp := pick15_c x.Item s.items.length hxx.I ⟨by omega, by omega⟩
   have hpn := pickN_in (n := x.Item) (m := (s.items.length : Int)) (by omega)
   have hgi : s.items[(pickN x.Item s.items.length).toNat]? = some (pickI s.items x.Item) := by
    unfold pickI
    rw [List.getD_eq_getElem?_getD, List.getElem?_eq_getElem (by omega)]; rfl
   have e1 : 0 ≤ pickN x.Item s.items.length := hpn.1
   generalize pickI s.items x.Item = it at *
   generalize pickN x.Item s.items.length = p at *
   refine runf (an @s1 (an @s2 (an @s7 (an @s8 (an @s9 (an @s10 (an @s11 (an @s12 (an @ga (an @hszx @e0)))))))))) ?_
   refine cp kp ?_
   refine runf (an @s1 (an @s2 (an @s7 (an @s8 (an @s9 (an @s10 (an @s11 (an @s12 (an @e1 (an @hgi @hszi)))))))))) ?_
   exact hK _ _ ⟨zsl, zsl, zsl, zsl, zsl, zsl, zsl, zsl, zsl, zsl, _, by rfl, by rfl, rfl⟩
 clear s1 s2 s7 s8 s9 s10 s11 s12
 rintro e S ⟨s1, s2, s7, s9, s8, s10, s11, s12, s13, s14, cs, hcl, hcw, rfl⟩
 have kp := pick15_c x.Do 8 hxx.D (by decide)
 have hp8 := pickN_in (n := x.Do) (m := 8) (by decide)
 have hgdef : goS s.server k s.items t x = (if pickN x.Do 8 ≤ 2 then ((saddD t.d 2 t.E (pickI s.items x.Item) x.Now).2.1, (saddD t.d 2 t.E (pickI s.items x.Item) x.Now).2.2, t.fl)
  else if pickN x.Do 8 ≤ 4 then ((Dm.flushD t.d 2).2, t.E, if (Dm.flushD t.d 2).1 = 0 then t.E.length else t.fl)
  else if pickN x.Do 8 = 5 then ((sopenD (Dm.lose (Dm.bring (Dm.crash t.d x.Keep)) 0) 2 s.server k).2.1, (sopenD (Dm.lose (Dm.bring (Dm.crash t.d x.Keep)) 0) 2 s.server k).2.2, (sopenD (Dm.lose (Dm.bring (Dm.crash t.d x.Keep)) 0) 2 s.server k).2.2.length)
  else if pickN x.Do 8 = 6 then (Dm.lose t.d 1, t.E, t.fl) else (t.d, t.E, t.fl)) := rfl
 have hstep : stepS s.server k s.items t x = ⟨(goS s.server k s.items t x).1, (goS s.server k s.items t x).2.1, (goS s.server k s.items t x).2.2, t.Fs ++ [(goS s.server k s.items t x).2.1.take (goS s.server k s.items t x).2.2]⟩ := rfl
 rw [hstep] at hnx
 generalize goS s.server k s.items t x = G at *
 generalize pickI s.items x.Item = it at *
 generalize pickN x.Do 8 = p at *
 refine AW_cut (fun e S => e 1 = .ptr 0 0 ∧ e 2 = .ptr 1 0 ∧ e 7 = .ptr 2 0 ∧ e 9 = .it .i64 0 ∧ e 10 = .sl (.own 8) ((t.Fs.map (headF k s.server)).map headV) ∧ e 11 = .sl (.own 9) (t.Fs.map entriesV) ∧ e 12 = .it .i64 (j : Int) ∧ ((e 8 = .ptr 5 0 ∧ S = PSt s k G.1 G.2.1 G.2.2 t.Fs.length ++ [.cells (stepL x), .cells cs]) ∨ (e 8 = .ptr 14 0 ∧ ∃ o3 o4 o5 o6 o7 : SObj,
   S = [XD G.1, .cells (scrL s), .cells [.it .i64 k.secret, .it .i64 k.pub], o3, o4, o5, o6, o7, .buf t.Fs.length 75 6, .buf t.Fs.length 68 1, .cells (stepL x), .cells cs,
    .cells [.ptr 0 0, .it .i64 2, .sl (.own 13) ((rowsB G.2.1).map .st)], .buf G.2.1.length 9 1, .cells [.ptr 12 0, .it .i64 s.server, .it .i64 k.secret, .it .i64 k.pub, .sl (.own 15) (G.2.1.map entryV), .mp 16, .it .i64 (G.2.2 : Int)], .buf G.2.1.length 84 50, mapE (G.2.1.map dg)]))) (fun Kt hK => ?_) ?_
 ·obtain rfl | rfl | rfl | rfl | rfl | rfl | rfl | rfl : p = 0 ∨ p = 1 ∨ p = 2 ∨ p = 3 ∨ p = 4 ∨ p = 5 ∨ p = 6 ∨ p = 7 := by omega
  focus
   obtain rfl := hgdef
   have ka := sadd_c t.d 2 s.server k t.E t.fl it x.Now hits (by omega) (fun h => right_small h)
   refine runf (an @s1 (an @s2 (an @s7 (an @s8 (an @s9 (an @s10 (an @s11 (an @s12 (an @s13 @s14))))))))) ?_
   refine cp kp ?_
   refine runf (an @s1 (an @s2 (an @s7 (an @s8 (an @s9 (an @s10 (an @s11 (an @s12 (an @s13 (an @s14 @hcl)))))))))) ?_
   refine csg 0 3 4 5 6 7 ka ?_ (hg := congrArg (fun v => [AV.ptr 5 0, v, AV.it .i64 x.Now]) hcw)
   refine runf (an @s1 (an @s2 (an @s7 (an @s8 (an @s9 (an @s10 (an @s11 (an @s12 (an @s13 @s14))))))))) ?_
   exact hK _ _ ⟨zsl, zsl, zsl, zsl, zsl, zsl, zsl, .inl ⟨zsl, rfl⟩⟩
  focus
   obtain rfl := hgdef
   have ka := sadd_c t.d 2 s.server k t.E t.fl it x.Now hits (by omega) (fun h => right_small h)
   refine runf (an @s1 (an @s2 (an @s7 (an @s8 (an @s9 (an @s10 (an @s11 (an @s12 (an @s13 @s14))))))))) ?_
   refine cp kp ?_
   refine runf (an @s1 (an @s2 (an @s7 (an @s8 (an @s9 (an @s10 (an @s11 (an @s12 (an @s13 (an @s14 @hcl)))))))))) ?_
   refine csg 0 3 4 5 6 7 ka ?_ (hg := congrArg (fun v => [AV.ptr 5 0, v, AV.it .i64 x.Now]) hcw)
   refine runf (an @s1 (an @s2 (an @s7 (an @s8 (an @s9 (an @s10 (an @s11 (an @s12 (an @s13 @s14))))))))) ?_
   exact hK _ _ ⟨zsl, zsl, zsl, zsl, zsl, zsl, zsl, .inl ⟨zsl, rfl⟩⟩
  focus
   obtain rfl := hgdef
   have ka := sadd_c t.d 2 s.server k t.E t.fl it x.Now hits (by omega) (fun h => right_small h)
   refine runf (an @s1 (an @s2 (an @s7 (an @s8 (an @s9 (an @s10 (an @s11 (an @s12 (an @s13 @s14))))))))) ?_
   refine cp kp ?_
   refine runf (an @s1 (an @s2 (an @s7 (an @s8 (an @s9 (an @s10 (an @s11 (an @s12 (an @s13 (an @s14 @hcl)))))))))) ?_
   refine csg 0 3 4 5 6 7 ka ?_ (hg := congrArg (fun v => [AV.ptr 5 0, v, AV.it .i64 x.Now]) hcw)
   refine runf (an @s1 (an @s2 (an @s7 (an @s8 (an @s9 (an @s10 (an @s11 (an @s12 (an @s13 @s14))))))))) ?_
   exact hK _ _ ⟨zsl, zsl, zsl, zsl, zsl, zsl, zsl, .inl ⟨zsl, rfl⟩⟩
  focus
   obtain rfl := hgdef
   have ka := sflush_c t.d 2 s.server k t.E t.fl
   refine runf (an @s1 (an @s2 (an @s7 (an @s8 (an @s9 (an @s10 (an @s11 (an @s12 (an @s13 @s14))))))))) ?_
   refine cp kp ?_
   refine runf (an @s1 (an @s2 (an @s7 (an @s8 (an @s9 (an @s10 (an @s11 (an @s12 (an @s13 @s14))))))))) ?_
   refine csg 0 3 4 5 6 7 ka ?_
   refine runf (an @s1 (an @s2 (an @s7 (an @s8 (an @s9 (an @s10 (an @s11 (an @s12 (an @s13 @s14))))))))) ?_
   exact hK _ _ ⟨zsl, zsl, zsl, zsl, zsl, zsl, zsl, .inl ⟨zsl, rfl⟩⟩
  focus
   obtain rfl := hgdef
   have ka := sflush_c t.d 2 s.server k t.E t.fl
   refine runf (an @s1 (an @s2 (an @s7 (an @s8 (an @s9 (an @s10 (an @s11 (an @s12 (an @s13 @s14))))))))) ?_
   refine cp kp ?_
   refine runf (an @s1 (an @s2 (an @s7 (an @s8 (an @s9 (an @s10 (an @s11 (an @s12 (an @s13 @s14))))))))) ?_
   refine csg 0 3 4 5 6 7 ka ?_
   refine runf (an @s1 (an @s2 (an @s7 (an @s8 (an @s9 (an @s10 (an @s11 (an @s12 (an @s13 @s14))))))))) ?_
   exact hK _ _ ⟨zsl, zsl, zsl, zsl, zsl, zsl, zsl, .inl ⟨zsl, rfl⟩⟩
  focus
   obtain ⟨d', jj, r1, r2, r3, r4, r5, r6, r7⟩ := v1.q.reopen x.Keep hs hkr
   rw [r3] at hgdef
   obtain rfl := hgdef
   have kc := d_crash t.d .ro x.Keep
   have kb := d_start (Dm.crash t.d x.Keep)
   have ke := d_lose (Dm.bring (Dm.crash t.d x.Keep)) 0 (by decide)
   have ko := sopen_c (Dm.lose (Dm.bring (Dm.crash t.d x.Keep)) 0) d' 2 s.server k (t.E.take jj) hkr hkk hs (by decide) r5 r6 r7 (v1.q.good.take jj) (by rw [List.length_take]; omega)
   generalize Dm.lose (Dm.bring (Dm.crash t.d x.Keep)) 0 = d3 at *
   generalize Dm.bring (Dm.crash t.d x.Keep) = d2 at *
   generalize Dm.crash t.d x.Keep = d1 at *
   generalize hE' : t.E.take jj = E' at *
   refine runf (an @s1 (an @s2 (an @s7 (an @s8 (an @s9 (an @s10 (an @s11 (an @s12 (an @s13 @s14))))))))) ?_
   refine cp kp ?_
   refine runf (an @s1 (an @s2 (an @s7 (an @s8 (an @s9 (an @s10 (an @s11 (an @s12 (an @s13 @s14))))))))) ?_
   refine c1 0 kc ?_
   refine runf (an @s1 (an @s2 (an @s7 (an @s8 (an @s9 (an @s10 (an @s11 (an @s12 (an @s13 @s14))))))))) ?_
   refine c1 0 kb ?_
   refine runf (an @s1 (an @s2 (an @s7 (an @s8 (an @s9 (an @s10 (an @s11 (an @s12 (an @s13 @s14))))))))) ?_
   refine c1 0 ke ?_
   refine runf (an @s1 (an @s2 (an @s7 (an @s8 (an @s9 (an @s10 (an @s11 (an @s12 (an @s13 @s14))))))))) ?_
   refine cso 0 ko ?_
   refine runf (an @s1 (an @s2 (an @s7 (an @s8 (an @s9 (an @s10 (an @s11 (an @s12 (an @s13 @s14))))))))) ?_
   exact hK _ _ ⟨zsl, zsl, zsl, zsl, zsl, zsl, zsl, .inr ⟨zsl, _, _, _, _, _, rfl⟩⟩
  focus
   obtain rfl := hgdef
   have ke := d_lose t.d 1 (by decide)
   refine runf (an @s1 (an @s2 (an @s7 (an @s8 (an @s9 (an @s10 (an @s11 (an @s12 (an @s13 @s14))))))))) ?_
   refine cp kp ?_
   refine runf (an @s1 (an @s2 (an @s7 (an @s8 (an @s9 (an @s10 (an @s11 (an @s12 (an @s13 @s14))))))))) ?_
   refine c1 0 ke ?_
   refine runf (an @s1 (an @s2 (an @s7 (an @s8 (an @s9 (an @s10 (an @s11 (an @s12 (an @s13 @s14))))))))) ?_
   exact hK _ _ ⟨zsl, zsl, zsl, zsl, zsl, zsl, zsl, .inl ⟨zsl, rfl⟩⟩
  focus
   obtain rfl := hgdef
   refine runf (an @s1 (an @s2 (an @s7 (an @s8 (an @s9 (an @s10 (an @s11 (an @s12 (an @s13 @s14))))))))) ?_
   refine cp kp ?_
   refine runf (an @s1 (an @s2 (an @s7 (an @s8 (an @s9 (an @s10 (an @s11 (an @s12 (an @s13 @s14))))))))) ?_
   exact hK _ _ ⟨zsl, zsl, zsl, zsl, zsl, zsl, zsl, .inl ⟨zsl, rfl⟩⟩
 clear s1 s2 s7 s9 s8 s10 s11 s12 s13 s14
 obtain ⟨gd, gE, gf⟩ := G
 simp only at hgo hnx ⊢
 obtain ⟨q1, q2, q3⟩ := hgo
 have kh := smhead_c gd 2 s.server k gE gf hkk (by omega) (fun e he => iz_right (q1.good.right e he).2) q1.le
 have ke := sentries_c gd 2 s.server k gE gf 0 100 (by omega) q1.le (fun e he => (q1.good.right e he).2)
 rw [win_all (by omega)] at ke
 change AC _ _ _ _ (headV (headF k s.server (gE.take gf))) _ at kh
 generalize gE.take gf = F at *
 have f1 : ((t.Fs ++ [F]).map (headF k s.server)).map headV = (t.Fs.map (headF k s.server)).map headV ++ [headV (headF k s.server F)] := by simp
 have f2 : (t.Fs ++ [F]).map entriesV = t.Fs.map entriesV ++ [entriesV F] := by simp
 have f3 : (t.Fs ++ [F]).length = t.Fs.length + 1 := by simp
 have hszh := heads_sz (t.Fs.map (headF k s.server))
 have hszl : allSz 1 (t.Fs.map entriesV) = true := allSz_map 1 entriesV (fun _ => rfl) _
 have hft1 : fits (t.Fs.length + 1) 96 = true := by apply fits_ok <;> omega
 have hft2 : fits (t.Fs.length + 1) 24 = true := by apply fits_ok <;> omega
 have hln1 : ((t.Fs.map (headF k s.server)).map headV).length = t.Fs.length := by simp
 generalize headF k s.server F = hd at *
 rintro e S ⟨s1, s2, s7, s9, s10, s11, s12, ⟨s8, rfl⟩ | ⟨s8, o3, o4, o5, o6, o7, rfl⟩⟩
 ·refine runf (an @s1 (an @s2 (an @s7 (an @s8 (an @s9 (an @s10 (an @s11 @s12))))))) ?_
  refine csg 0 3 4 5 6 7 kh ?_
  refine runf (an @s1 (an @s2 (an @s7 (an @s8 (an @s9 (an @s10 (an @s11 (an @s12 (an @hszh @hft1))))))))) ?_
  refine csg 0 3 4 5 6 7 ke ?_
  refine runf (an @s1 (an @s2 (an @s7 (an @s8 (an @s9 (an @s10 (an @s11 (an @s12 (an @hszl @hft2))))))))) ?_
  exact round_mk' (s.steps.length - (j + 1)) _ _ (Weak.sub 1 (List.range 10) (((((((((KeepR.nil _ _).cons 1 (.ptr 0 0) (.ptr 0 0) rfl rfl zsl).cons 2 (.ptr 1 0) (.ptr 1 0) rfl rfl zsl).cons 7 (.ptr 2 0) (.ptr 2 0) rfl rfl zsl).cons 9 (.it .i64 0) (.it .i64 0) rfl rfl zsl).cons 8 (.ptr 5 0) (.ptr 5 0) rfl rfl zsl).cons 10 (.sl (.own 8) ((t.Fs.map (headF k s.server)).map headV ++ [headV hd])) (.sl (.own 8) ((t.Fs.map (headF k s.server)).map headV ++ [headV hd])) rfl rfl zsl).cons 11 (.sl (.own 9) (t.Fs.map entriesV ++ [entriesV F])) (.sl (.own 9) (t.Fs.map entriesV ++ [entriesV F])) rfl rfl zsl).cons 12 (.it .i64 ((j + 1 : Nat) : Int)) (.it .i64 ((j + 1 : Nat) : Int)) rfl rfl zsl) (pstA_sub s k gd gE gf (t.Fs.length + 1) _) rfl) (by omega) ⟨zsl, zsl, zsl, zsl, zsl, j + 1, _, hnx.symm, (by rw [f1]; exact zsl), (by rw [f2]; exact zsl), zsl, (by show _ = PSt s k gd gE gf (t.Fs ++ [F]).length; rw [f3]), by omega, rfl⟩
 ·refine runf (an @s1 (an @s2 (an @s7 (an @s8 (an @s9 (an @s10 (an @s11 @s12))))))) ?_
  refine csg 0 12 13 14 15 16 kh ?_
  refine runf (an @s1 (an @s2 (an @s7 (an @s8 (an @s9 (an @s10 (an @s11 (an @s12 (an @hszh @hft1))))))))) ?_
  refine csg 0 12 13 14 15 16 ke ?_
  refine runf (an @s1 (an @s2 (an @s7 (an @s8 (an @s9 (an @s10 (an @s11 (an @s12 (an @hszl @hft2))))))))) ?_
  exact round_mk' (s.steps.length - (j + 1)) _ _ (Weak.sub 1 [0, 1, 2, 12, 13, 14, 15, 16, 8, 9] (((((((((KeepR.nil _ _).cons 1 (.ptr 0 0) (.ptr 0 0) rfl rfl zsl).cons 2 (.ptr 1 0) (.ptr 1 0) rfl rfl zsl).cons 7 (.ptr 2 0) (.ptr 2 0) rfl rfl zsl).cons 9 (.it .i64 0) (.it .i64 0) rfl rfl zsl).cons 8 (.ptr 5 0) (.ptr 14 0) rfl rfl zsl).cons 10 (.sl (.own 8) ((t.Fs.map (headF k s.server)).map headV ++ [headV hd])) (.sl (.own 8) ((t.Fs.map (headF k s.server)).map headV ++ [headV hd])) rfl rfl zsl).cons 11 (.sl (.own 9) (t.Fs.map entriesV ++ [entriesV F])) (.sl (.own 9) (t.Fs.map entriesV ++ [entriesV F])) rfl rfl zsl).cons 12 (.it .i64 ((j + 1 : Nat) : Int)) (.it .i64 ((j + 1 : Nat) : Int)) rfl rfl zsl) (pstB_sub s k gd gE gf (t.Fs.length + 1) o3 o4 o5 o6 o7 _ _) rfl) (by omega) ⟨zsl, zsl, zsl, zsl, zsl, j + 1, _, hnx.symm, (by rw [f1]; exact zsl), (by rw [f2]; exact zsl), zsl, (by show _ = PSt s k gd gE gf (t.Fs ++ [F]).length; rw [f3]), by omega, rfl⟩
end Go.Proofs.YtlefikdjhnaapaaGreatDoor.Pe
end
section
namespace Go.Proofs.YtlefikdjhnaapaaGreatDoor.Pe
open Go Sm Mk
set_option maxRecDepth 100000
def incB (x : By) (i n : Int) (root : By) (p : List By) : Bool := decide (0 ≤ i) && decide (i < n) && ((x.length : Int) == 32) && (p.all fun s => (s.length : Int) == 32) && (flw p.reverse i.toNat n.toNat x).2 && (flw p.reverse i.toNat n.toNat x).1 == root
theorem includes_b (p : List By) (i n : Int) (x root : By) (hn : n ≤ 9223372036854775807) (hn' : -9223372036854775808 ≤ n) (hi : -9223372036854775808 ≤ i ∧ i ≤ 9223372036854775807) (hp : p.length ≤ 1000000) (hx : x.length ≤ 1000000) (hall : ∀ y ∈ p, y.length ≤ 1000000) :
  AC Tryz.prog 61 [.st x, .it .i64 i, .it .i64 n, .st root, sls p] [] (.bo (incB x i n root p)) [] := includes_c p i n x root hn hn' hi hp hx hall
theorem digs_of {p : List By} (h : Dig p) : (p.all fun s => (s.length : Int) == 32) = true := by
 rw [List.all_eq_true]
 intro x hx
 simp [h x hx]
theorem incB_path {l : List By} {i : Nat} {x : By} (hi : i < l.length) (hx : l[i]? = some x) (hd : Dig l) : incB x i l.length (root l) (path l i) = true := by
 unfold incB
 have h1 := flw_path l.length l i x hi hx (Nat.le_refl _)
 have h2 := hd x (List.mem_of_getElem? hx)
 rw [digs_of (path_dig l.length l i (Nat.le_refl _) hd), Int.toNat_natCast, Int.toNat_natCast, h1, root_rt (by omega)]
 simp [h2]
 omega
end Go.Proofs.YtlefikdjhnaapaaGreatDoor.Pe
end
section
namespace Go.Proofs.YtlefikdjhnaapaaGreatDoor.Pe
open Go Go.RowKit Co Sg Ac It Sl Wl Ql
set_option maxRecDepth 100000
set_option maxHeartbeats 4000000
theorem same15_c (a : List It.Entry) (hl : a.length ≤ 1000000) (hz : ∀ e ∈ a, Iz e.item) : AC Tryz.prog 27 [entriesV a, entriesV a] [] (.bo true) [] := by
 refine AC.enter2 [37] [] Tryz.func27 rfl (by decide) (by decide) (Nat.le_of_ble_eq_true rfl) (by kernel_rfl) ?_; refine zev ?_
 have hsa := entries_sz a
 have e6 : ∀ l : Int, (l != l) = false := fun l => by simp
 refine run ?_
 refine loop_mk (fun m e S => S = [] ∧ e 0 = entriesV a ∧ e 1 = entriesV a ∧ ∃ k : Nat, e 5 = .it .i64 (k : Int) ∧ k ≤ a.length ∧ m = a.length - k) a.length ⟨rfl, zsl, zsl, 0, zsl, by omega, rfl⟩ ?_
 rintro m e S ⟨rfl, s0, s1, k, s5, hk, rfl⟩
 by_cases hlt : k < a.length
 ·have hga : a[k]? = some a[k] := List.getElem?_eq_getElem hlt
  have za := hz a[k] (List.getElem_mem hlt)
  generalize a[k] = x at *
  have ks := sameI_c x.item x.item za.lz za.lz
  rw [decide_eq_true rfl] at ks
  refine runf (an @s0 (an @s1 (an @s5 (an @hga (an @hsa @e6))))) ?_
  refine cp ks ?_
  refine runf (an @s0 (an @s1 (an @s5 (an @hga (an @hsa @e6))))) ?_
  exact round_mk (a.length - (k + 1)) (by omega) ⟨rfl, zsl, zsl, k + 1, zsl, by omega, rfl⟩
 ·refine runf (an @s0 (an @s1 @s5)) ?_
  exact er0
theorem win_len {E : List It.Entry} {fl : Nat} (h : fl ≤ E.length) : windowE E fl 0 fl = E.take fl := by
 unfold windowE
 split
 ·rw [show fl = 0 by omega]; rfl
 ·show List.take (fl : Int).toNat (List.drop 0 (E.take fl)) = _
  rw [List.drop_zero, Int.toNat_natCast, List.take_take, Nat.min_self]
theorem win_eq {F : List It.Entry} {a lo h : Nat} {n : Int} (h1 : lo = min a F.length) (h2 : lo ≤ h) (h3 : h ≤ F.length) (h4 : h = lo ∨ (h : Int) - lo ≤ n) (h5 : h = F.length ∨ n ≤ (h : Int) - lo) : (F.take h).drop lo = if n ≤ 0 then [] else (F.drop a).take n.toNat := by
 rw [List.drop_take]
 have hd : F.drop a = F.drop lo := by
  by_cases ha : a ≤ F.length
  ·rw [h1, Nat.min_eq_left ha]
  ·rw [h1, Nat.min_eq_right (by omega), List.drop_eq_nil_of_le (by omega), List.drop_eq_nil_of_le (Nat.le_refl _)]
 have hl : (F.drop lo).length = F.length - lo := List.length_drop
 split
 ·rw [show h - lo = 0 by omega, List.take_zero]
 ·rw [hd]
  by_cases e : h = F.length
  ·rw [List.take_of_length_le (by omega), List.take_of_length_le (by omega)]
  ·rw [show h - lo = n.toNat by omega]
structure WinS (s : Scr) : Prop where
 seed : s.seed.length ≤ 140737488351232
 server : -9223372036854775808 ≤ s.server ∧ s.server ≤ 9223372036854775807
 items : s.items.length ≤ 140737488351232
 steps : s.steps.length ≤ 140737488351232
 x : ∀ x ∈ s.steps, Win15 x
 z : ∀ i ∈ s.items, Iz i
theorem few_of {s : Scr} (h : fewS s = true) : s.items.length ≤ 12 ∧ s.steps.length ≤ 40 ∧ s.seed.length ≤ 500 := by
 unfold fewS at h
 simp only [Bool.and_eq_true, decide_eq_true_eq] at h
 omega
section
variable {P : Program} {pf rf : List FuncId} {e : Env} {F : FuncId} {dst : Option Nat} {rest : List AO} {K : Env → Store → Prop}
theorem AC.sp {T : Store} {d d' : Dm.Dk} {f server : Int} {k : Key} {E : List It.Entry} {fl : Nat} {a : Nat} {s : Scr} {H L : List AV} (hT : T[a]? = some (XD d)) (h : AC P F [scrV s, .ptr 0 0] [XD d] (.tup [.ptr 3 0, .sl .ro H, .sl .ro L]) (SG d' f server k E fl)) :
  AC P F [scrV s, .ptr a 0] T (.tup [.ptr (T.length + 2) 0, .sl .ro H, .sl .ro L]) (T.set a (XD d') ++ [.cells [.ptr a 0, .it .i64 f, .sl (.own (T.length + 1)) ((rowsB E).map .st)], .buf E.length 9 1, .cells [.ptr T.length 0, .it .i64 server, .it .i64 k.secret, .it .i64 k.pub, .sl (.own (T.length + 3)) (E.map entryV), .mp (T.length + 4), .it .i64 (fl : Int)], .buf E.length 84 50, mapE (E.map dg)]) := by
 have := h.frame (T := T) [a] (subOk_one a rfl hT) rfl rfl (sg_ok _ _ _ _ _ _)
 have hM : ∀ ρ, (mapE (E.map dg)).ren ρ = mapE (E.map dg) := fun ρ => mapE_ren ρ _
 unfold SG at this
 generalize mapE (E.map dg) = M at *
 simp only [after, List.map_cons, List.drop_succ_cons, List.drop_zero, List.length_cons, List.length_nil, hM] at this
 simpa [after, setAll, ext, idx, SObj.ren, AV.r1, AV.r0, Mode.ren, AV.ren, AV.r2] using this
theorem csp {gargs : List AV} {T : Store} {d d' : Dm.Dk} {f server : Int} {k : Key} {E : List It.Entry} {fl : Nat} {s : Scr} {H L : List AV} (a : Nat) (h : AC P F [scrV s, .ptr 0 0] [XD d] (.tup [.ptr 3 0, .sl .ro H, .sl .ro L]) (SG d' f server k E fl))
  (h' : ARg P pf rf rest (put e dst (.tup [.ptr (T.length + 2) 0, .sl .ro H, .sl .ro L])) (T.set a (XD d') ++ [.cells [.ptr a 0, .it .i64 f, .sl (.own (T.length + 1)) ((rowsB E).map .st)], .buf E.length 9 1, .cells [.ptr T.length 0, .it .i64 server, .it .i64 k.secret, .it .i64 k.pub, .sl (.own (T.length + 3)) (E.map entryV), .mp (T.length + 4), .it .i64 (fl : Int)], .buf E.length 84 50, mapE (E.map dg)]) K)
  (hT : T[a]? = some (XD d) := by rfl) (hg : gargs.map AV.wk = [scrV s, .ptr a 0] := by rfl) :
  callP (AnyC P F gargs T) (ARgk P pf rf dst rest e K) := call_mk (show AC P F (gargs.map AV.wk) T _ _ by rw [hg]; exact AC.sp hT h) h'
end
theorem slogProves_c (s : Scr) (frm n : Int) (hw : WinS s) (hfr : -9223372036854775808 ≤ frm ∧ frm ≤ 9223372036854775807) (hn : -9223372036854775808 ≤ n ∧ n ≤ 9223372036854775807) : AC Tryz.prog 7 [scrV s, .it .i64 frm, .it .i64 n] [] (.bo true) [] := by
 refine AC.enter4 [9, 10, 27, 41, 60, 61] [] [(3, ([0], [34], []))] [] Tryz.func7 rfl (by decide) (by decide) (Nat.le_of_ble_eq_true rfl) (by kernel_rfl) ?_; simp only [eraseC, eraseG, eraseO, List.map_cons, List.map_nil, List.map_toArray, List.getElem?_toArray, List.getElem?_cons_zero, List.getElem?_cons_succ, Option.bind_some, Option.bind_none, List.append_eq, List.cons_append, List.nil_append, eraseC4, eraseC3, hasSp, ordOf, List.isEmpty_nil, List.isEmpty_cons, Bool.and_true, Bool.and_false, Bool.and_self, Bool.false_and, Bool.true_and, List.lookup, Nat.reduceBEq, beq_self_eq_true, Option.isSome_some, Option.isSome_none, Bool.or_true, Bool.true_or, Bool.or_false, Bool.not_true, Bool.not_false, Bool.false_eq_true, if_true, if_false, ↓reduceIte, List.size_toArray, List.length_cons, List.length_nil, List.range_succ_eq_map, List.range_zero, Nat.reduceAdd, List.filterMap_cons, List.filterMap_nil]
 have kf := few15_c s hw.steps hw.items hw.seed hw.x
 refine run4 ?_
 refine cp kf ?_
 by_cases hf : fewS s = true
 rotate_left
 ·have hf : fewS s = false := by simpa using hf
  refine runf4 @hf ?_
  refine cp small15_c ?_
  refine run4 ?_
  exact er0
 by_cases h1 : s.server < 0
 ·refine runf4 (an @hf @h1) ?_
  refine cp small15_c ?_
  refine run4 ?_
  exact er0
 by_cases h2 : s.server ≥ 20
 ·refine runf4 (an @hf (an @h1 @h2)) ?_
  refine cp small15_c ?_
  refine run4 ?_
  exact er0
 obtain ⟨b1, b2, b3⟩ := few_of hf
 have hsv : 0 ≤ s.server ∧ s.server ≤ 19 := by omega
 obtain ⟨d0, o1, o2, o3⟩ := dk0_open hsv (keySeed_right s.seed)
 have hinv := runS_inv (items := s.items) hsv (keySeed_right s.seed) s.steps ⟨d0, [], 0, []⟩ (begin_inv o2)
 have kp := played_c s d0 o3 o2 hsv b1 b2 b3 hw.x hw.z _ rfl
 generalize runS s.server (keySeed s.seed) s.items ⟨d0, [], 0, []⟩ s.steps = st at *
 obtain ⟨v1, v2, v3⟩ := hinv
 simp only [List.length_nil, Nat.zero_add] at v2 v3
 refine runf4 (an @hf (an @h1 @h2)) ?_
 refine wk0 ?_; refine run4 ?_
 repeat (first | refine k4 ?_ | refine k4r ?_ | (refine a4r ?_; refine run4 ?_) | (refine a4 ?_; refine run4 ?_)); try refine run4 ?_
 refine call_mk (AC.newAt d_new _) ?_
 repeat (first | refine k4 ?_ | refine k4r ?_ | (refine a4r ?_; refine run4 ?_) | (refine a4 ?_; refine run4 ?_)); try refine run4 ?_
 refine csp 1 kp ?_
 have hk := keySeed_right s.seed
 have hkr := keyS_range s.seed
 generalize keySeed s.seed = k at *
 have hF : st.E.take st.fl = st.E.take st.fl := rfl
 have hgo := v1.q.good
 have hle := v1.q.le
 have kh := smhead_c st.d 2 s.server k st.E st.fl hkr (by omega) (fun e he => iz_right (hgo.right e he).2) hle
 have kl := slen_c st.d 2 s.server k st.E st.fl
 have ke := sentries_c st.d 2 s.server k st.E st.fl 0 st.fl (by omega) hle (fun e he => (hgo.right e he).2)
 rw [win_len hle] at ke
 have ke2 := sentries_c st.d 2 s.server k st.E st.fl frm n (by omega) hle (fun e he => (hgo.right e he).2)
 have hwd : windowE st.E st.fl frm n = if n ≤ 0 then [] else ((st.E.take st.fl).drop frm.toNat).take n.toNat := rfl
 have hFl : (st.E.take st.fl).length = st.fl := by rw [List.length_take]; omega
 have hF40 : st.fl ≤ 40 := by omega
 have hgF := hgo.take st.fl
 obtain ⟨q1, q2, q3, q4⟩ := headF_ok (server := s.server) hk hsv (by rw [hFl]; omega) hgF
 change AC _ _ _ _ (headV (headF k s.server (st.E.take st.fl))) _ at kh
 generalize headF k s.server (st.E.take st.fl) = hd at *
 generalize windowE st.E st.fl frm n = W at *
 generalize st.E.take st.fl = F at *
 repeat (first | refine k4 ?_ | refine k4r ?_ | (refine a4r ?_; refine run4 ?_) | (refine a4 ?_; refine run4 ?_)); try refine run4 ?_
 refine csg 1 2 3 4 5 6 kh ?_
 refine run4 ?_
 refine csg 1 2 3 4 5 6 kl ?_
 refine run4 ?_
 refine csg 1 2 3 4 5 6 ke ?_
 refine run4 ?_
 refine csg 1 2 3 4 5 6 kl ?_
 have e6 : ((F.length : Int) != (st.fl : Int)) = false := by rw [hFl]; simp
 refine runf4 @e6 ?_
 have hsz := entries_sz F
 have hiz : ∀ e ∈ F, Iz e.item := fun e he => iz_right (hgF.right e he).2
 refine loop_mk' (fun m e S => e 1 = .it .i64 frm ∧ e 2 = .it .i64 n ∧ e 7 = .ptr 4 0 ∧ e 10 = .ptr 7 0 ∧ e 11 = entriesV F ∧ ∃ (j : Nat) (acc : List By) (T : Store), e 13 = .it .i64 (j : Int) ∧ e 12 = .sl (.own 8) (acc.map .st) ∧ S = [.cells (scrL s), XD st.d, .cells [.ptr 1 0, .it .i64 2, .sl (.own 3) ((rowsB st.E).map .st)], .buf st.E.length 9 1, .cells [.ptr 2 0, .it .i64 s.server, .it .i64 k.secret, .it .i64 k.pub, .sl (.own 5) (st.E.map entryV), .mp 6, .it .i64 (st.fl : Int)], .buf st.E.length 84 50, mapE (st.E.map dg), .cells (headL hd)] ++ .buf acc.length 9 1 :: T ∧ acc = (F.take j).map leafE ∧ j ≤ F.length ∧ m = F.length - j) F.length _ _ (Weak.reserve 0 12 (es := []) (by rfl) 9 1)
  ⟨zsl, zsl, zsl, zsl, zsl, 0, [], [], zsl, zsl, rfl, by simp, by omega, rfl⟩ ?_
 rintro m e S ⟨s1, s2, s7, s10, s11, j, acc, T, s13, s12, rfl, hacc, hj, rfl⟩
 have hT1 : ∀ y : SObj, (T ++ [y])[T.length]? = some y := fun y => by simp
 have hT2 : ∀ y z : SObj, (T ++ [y]).set T.length z = T ++ [z] := fun y z => by simp
 have hal : acc.length = j := by rw [hacc, List.length_map, List.length_take, Nat.min_eq_left hj]
 by_cases hlt : j < F.length
 ·have hg : F[j]? = some F[j] := List.getElem?_eq_getElem hlt
  have hzk := hiz F[j] (List.getElem_mem hlt)
  have hst : acc ++ [leafE F[j]] = (F.take (j + 1)).map leafE := by rw [List.take_succ_eq_append_getElem hlt, List.map_append, ← hacc]; rfl
  generalize F[j] = x at *
  have kx := sleaf_c x hzk
  refine runf4 (an @s1 (an @s2 (an @s7 (an @s10 (an @s11 (an @s13 (an @s12 (an @hg (an @hsz (an @hT1 @hT2)))))))))) ?_
  refine cp kx ?_
  refine runf4 (an @s1 (an @s2 (an @s7 (an @s10 (an @s11 (an @s13 @s12)))))) ?_
  exact round_mk (F.length - (j + 1)) (by omega) ⟨zsl, zsl, zsl, zsl, zsl, j + 1, acc ++ [leafE x], _, zsl, by rw [List.map_append]; exact zsl, by rw [List.length_append]; rfl, hst, by omega, rfl⟩
 obtain rfl : j = F.length := by omega
 rw [List.take_length] at hacc
 subst hacc
 clear hT1 hT2
 have hdg := leaves_dig F
 have hll : (F.map leafE).length = F.length := List.length_map _
 refine runf4 (an @s1 (an @s2 (an @s7 (an @s10 (an @s11 (an @s13 @s12)))))) ?_
 refine loop_mk (fun m e S => e 1 = .it .i64 frm ∧ e 2 = .it .i64 n ∧ e 7 = .ptr 4 0 ∧ e 10 = .ptr 7 0 ∧ e 11 = entriesV F ∧ e 12 = .sl (.own 8) ((F.map leafE).map .st) ∧ S = [.cells (scrL s), XD st.d, .cells [.ptr 1 0, .it .i64 2, .sl (.own 3) ((rowsB st.E).map .st)], .buf st.E.length 9 1, .cells [.ptr 2 0, .it .i64 s.server, .it .i64 k.secret, .it .i64 k.pub, .sl (.own 5) (st.E.map entryV), .mp 6, .it .i64 (st.fl : Int)], .buf st.E.length 84 50, mapE (st.E.map dg), .cells (headL hd)] ++ .buf F.length 9 1 :: T ∧ ∃ (j : Nat), e 14 = .it .i64 (j : Int) ∧ j ≤ F.length ∧ m = F.length - j) F.length
  ⟨zsl, zsl, zsl, zsl, zsl, zsl, rfl, 0, zsl, by omega, rfl⟩ ?_
 clear s1 s2 s7 s10 s11 s13 s12
 rintro m e S ⟨s1, s2, s7, s10, s11, s12, rfl, j, s14, hj, rfl⟩
 by_cases hlt : j < F.length
 ·have hg : F[j]? = some F[j] := List.getElem?_eq_getElem hlt
  have hzk := hiz F[j] (List.getElem_mem hlt)
  have hgl : (F.map leafE)[j]? = some (leafE F[j]) := by rw [List.getElem?_map, hg]; rfl
  have kx := sleaf_c F[j] hzk
  have kpa := path_c (F.map leafE) j (by omega) (by omega) (fun x hx => by rw [hdg x hx]; decide)
  have hpl := path_len (F.map leafE).length (F.map leafE) j (Nat.le_refl _)
  have hpd := Mk.path_dig (F.map leafE).length (F.map leafE) j (Nat.le_refl _) hdg
  have ki := includes_b (Mk.path (F.map leafE) j) j (F.map leafE).length (leafE F[j]) (Mk.root (F.map leafE)) (by omega) (by omega) (by omega) (by omega) (by rw [leafE_len]; decide) (fun x hx => by rw [hpd x hx]; decide)
  rw [incB_path (by omega) hgl hdg] at ki
  rw [hll] at ki
  have q2' : hd.size = (F.length : Int) := q2
  have q3' : hd.root = Mk.root (F.map leafE) := q3
  generalize F[j] = x at *
  generalize Mk.path (F.map leafE) j = pa at *
  rw [← q2', ← q3'] at ki
  refine runf4 (an @s1 (an @s2 (an @s7 (an @s10 (an @s11 (an @s12 @s14)))))) ?_
  refine cp kpa ?_
  refine runf4 (an @s1 (an @s2 (an @s7 (an @s10 (an @s11 (an @s14 (an @hg @hsz))))))) ?_
  refine cp kx ?_
  refine runf4 (an @s1 (an @s2 (an @s7 (an @s10 (an @s11 (an @s14 (an @hg @hsz))))))) ?_
  refine cp ki ?_
  refine runf4 (an @s1 (an @s2 (an @s7 (an @s10 (an @s11 @s14))))) ?_
  exact round_mk (F.length - (j + 1)) (by omega) ⟨zsl, zsl, zsl, zsl, zsl, zsl, rfl, j + 1, zsl, by omega, rfl⟩
 obtain rfl : j = F.length := by omega
 have hmx : (if 0 > frm then 0 else frm) = (frm.toNat : Int) := by split <;> omega
 obtain ⟨lo, hlo⟩ : ∃ lo, lo = min frm.toNat F.length := ⟨_, rfl⟩
 have hmn : (if (F.length : Int) < (frm.toNat : Int) then (F.length : Int) else (frm.toNat : Int)) = (lo : Int) := by split <;> omega
 refine runf4 (an @s1 (an @s2 (an @s7 (an @s10 (an @s11 (an @s12 (an @s14 (an @hmx @hmn)))))))) ?_
 refine loop_mk (fun m e S => e 2 = .it .i64 n ∧ e 1 = .it .i64 frm ∧ e 7 = .ptr 4 0 ∧ e 11 = entriesV F ∧ e 17 = .it .i64 (lo : Int) ∧ S = [.cells (scrL s), XD st.d, .cells [.ptr 1 0, .it .i64 2, .sl (.own 3) ((rowsB st.E).map .st)], .buf st.E.length 9 1, .cells [.ptr 2 0, .it .i64 s.server, .it .i64 k.secret, .it .i64 k.pub, .sl (.own 5) (st.E.map entryV), .mp 6, .it .i64 (st.fl : Int)], .buf st.E.length 84 50, mapE (st.E.map dg), .cells (headL hd)] ++ .buf F.length 9 1 :: T ∧ ∃ (h : Nat), e 18 = .it .i64 (h : Int) ∧ lo ≤ h ∧ h ≤ F.length ∧ (h = lo ∨ (h : Int) - lo ≤ n) ∧ m = F.length - h) (F.length - lo)
  ⟨zsl, zsl, zsl, zsl, zsl, rfl, lo, zsl, Nat.le_refl _, by omega, .inl rfl, rfl⟩ ?_
 clear s1 s2 s7 s10 s11 s12 s14
 rintro m e S ⟨s2, s1, s7, s11, s17, rfl, h, s18, g1, g2, g3, rfl⟩
 by_cases hc : h < F.length ∧ (h : Int) - lo < n
 ·have c1 : (h : Int) < (F.length : Int) := by omega
  have c2 : (h : Int) - (lo : Int) < n := hc.2
  refine runf4 (an @s1 (an @s2 (an @s7 (an @s11 (an @s17 (an @s18 (an @c1 @c2))))))) ?_
  exact round_mk (F.length - (h + 1)) (by omega) ⟨zsl, zsl, zsl, zsl, zsl, rfl, h + 1, zsl, by omega, by omega, .inr (by omega), rfl⟩
 have hW : (F.take h).drop lo = W := by
  rw [hwd]
  exact win_eq hlo g1 g2 g3 (by omega)
 have ksm := same15_c W (by rw [← hW, List.length_drop, List.length_take]; omega) (fun e he => by rw [← hW] at he; exact hiz e (List.mem_of_mem_take (List.mem_of_mem_drop he)))
 have c3 : lo ≤ h := g1
 have c4 : h ≤ F.length := g2
 by_cases c1 : (h : Int) < (F.length : Int)
 ·have c2 : ¬ (h : Int) - (lo : Int) < n := fun q => hc ⟨by omega, q⟩
  refine runf4 (an @s1 (an @s2 (an @s7 (an @s11 (an @s17 (an @s18 (an @c1 @c2))))))) ?_
  refine csg 1 2 3 4 5 6 ke2 ?_
  refine runf4 (an @s1 (an @s2 (an @s7 (an @s11 (an @s17 (an @s18 (an @c3 (an @c4 (an @hsz @hW))))))))) ?_
  refine cp ksm ?_
  refine run4 ?_
  exact er0
 ·refine runf4 (an @s1 (an @s2 (an @s7 (an @s11 (an @s17 (an @s18 @c1)))))) ?_
  refine csg 1 2 3 4 5 6 ke2 ?_
  refine runf4 (an @s1 (an @s2 (an @s7 (an @s11 (an @s17 (an @s18 (an @c3 (an @c4 (an @hsz @hW))))))))) ?_
  refine cp ksm ?_
  refine run4 ?_
  exact er0
end Go.Proofs.YtlefikdjhnaapaaGreatDoor.Pe
end
section
namespace Go.Proofs.YtlefikdjhnaapaaGreatDoor.Pe
open Go Go.RowKit Co Sg Ac It Sl Ql
set_option maxRecDepth 100000
set_option maxHeartbeats 4000000
theorem shp_step {n us} (h : shp Tryz.prog 140737488351232 (n + 3) 44 us) : ∃ x : Stp, us = (stepV x).cells ∧ Win15 x := by
 have h := shp_struct Tryz.underlying44 h
 obtain ⟨a0, b0, rfl, h0, h⟩ := h
 obtain ⟨a1, b1, rfl, h1, h⟩ := h
 obtain ⟨a2, b2, rfl, h2, h⟩ := h
 obtain ⟨a3, b3, rfl, h3, rfl⟩ := h
 obtain ⟨i0, rfl, w0⟩ := shp_i64 Tryz.underlying3 h0
 obtain ⟨i1, rfl, w1⟩ := shp_i64 Tryz.underlying3 h1
 obtain ⟨i2, rfl, w2⟩ := shp_i64 Tryz.underlying3 h2
 obtain ⟨l3, rfl, w3⟩ := shp_intsI h3
 exact ⟨⟨i0, i1, i2, l3⟩, rfl, w0, w1, w2, by have := w3.1; omega⟩
theorem shp_steps {n us} (h : shp Tryz.prog 140737488351232 (n + 4) 23 us) : ∃ l : List Stp, us = [.sl .ro (l.map stepV)] ∧ l.length ≤ 140737488351232 ∧ ∀ x ∈ l, Win15 x :=
 shp_slice stepV Win15 Tryz.underlying23 h fun x hx => by
  obtain ⟨a, rfl, ha⟩ := shp_step hx
  exact ⟨a, by rw [show aggT Tryz.prog 44 = true from by kernel_rfl]; rfl, ha⟩
theorem shp_items {n us} (h : shp Tryz.prog 140737488351232 (n + 7) 22 us) : ∃ l : List It.Item, us = [.sl .ro (l.map itemV)] ∧ l.length ≤ 140737488351232 ∧ ∀ x ∈ l, Iz x :=
 shp_slice itemV Iz Tryz.underlying22 h fun x hx => by
  obtain ⟨a, rfl, ha⟩ := shp_itemI hx
  exact ⟨a, by rw [show aggT Tryz.prog 60 = true from by kernel_rfl]; rfl, ha.iz⟩
theorem shp_scr {n us} (h : shp Tryz.prog 140737488351232 (n + 8) 25 us) : ∃ s : Scr, us = (scrV s).cells ∧ WinS s := by
 have h := shp_struct Tryz.underlying25 h
 obtain ⟨a0, b0, rfl, h0, h⟩ := h
 obtain ⟨a1, b1, rfl, h1, h⟩ := h
 obtain ⟨a2, b2, rfl, h2, h⟩ := h
 obtain ⟨a3, b3, rfl, h3, rfl⟩ := h
 obtain ⟨s0, rfl, w0⟩ := shp_str Tryz.underlying9 h0
 obtain ⟨i1, rfl, w1⟩ := shp_i64 Tryz.underlying3 h1
 obtain ⟨l2, rfl, w2, w2'⟩ := shp_items h2
 obtain ⟨l3, rfl, w3, w3'⟩ := shp_steps h3
 exact ⟨⟨s0, i1, l2, l3⟩, rfl, w0, w1, w2, w3, w3', w2'⟩
end Go.Proofs.YtlefikdjhnaapaaGreatDoor.Pe
end
