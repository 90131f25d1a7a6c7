/- Several texts in one, without what this claim does not use (tools/shake.py). -/
import Derived.Lib.AppendStr
import Derived.WalkKit
import Derived.ProofKit
import Derived.WalkSpells
import Derived.WalkLawsBesides
import Derived.Laws.OwnMore
import Derived.Laws.IdiomStrings
import Derived.Deep.Draws
import Derived.Deep.OwnRows
import Derived.StillTailTactics
import Derived.Laws.StructEq
import Derived.Laws.Strings
import Derived.Laws.PanicsMore
import Derived.Laws.Tables
import Derived.Test.YthbpbkbjdfcnjaaGreatDoorChecked
import Derived.Lib.Hide
import Derived.BigRegion
import Derived.RegionTactic
import Derived.BigQuiet
import Derived.Deep.RegionLaw
import Derived.Deep.RegionHeld3
import Derived.MapKept
import Derived.Laws.MakeOwn
import Derived.Still
import Derived.Deep.LoopGhost
import Derived.Below
import Derived.ChangeSame
import Derived.OpenShut
import Derived.ShutString
import Derived.Deep.Strs
import Derived.SizedLaws
import Derived.Deep.Slices
import Derived.ChangeArms
import Derived.Laws.Entries
import Derived.Test.YthbpbkbjdfcnjaaGreatDoorProg
import Derived.KernelRfl
import Derived.Lib.DecodeN
import Derived.Shelf.Strings.Builder1
import Derived.Shelf.Strings.Builder2
import Derived.Shelf.Strings.OnBuilder
import Derived.Shelf.Bits.Mul64
import Derived.Test.YthbpbkbjdfcnjaaGreatDoorKh1
import Derived.Test.YthbpbkbjdfcnjaaGreatDoorKh2
import Derived.Test.YthbpbkbjdfcnjaaGreatDoorKh3
import Derived.Test.YthbpbkbjdfcnjaaGreatDoorKh4
import Derived.Test.YthbpbkbjdfcnjaaGreatDoorKh5
import Derived.Test.YthbpbkbjdfcnjaaGreatDoorKh6
import Derived.Test.YthbpbkbjdfcnjaaGreatDoorKh7
import Derived.Test.YthbpbkbjdfcnjaaGreatDoorKh8
import Derived.Test.YthbpbkbjdfcnjaaGreatDoorKh9
import Derived.Test.YthbpbkbjdfcnjaaGreatDoorKh10
import Derived.Test.YthbpbkbjdfcnjaaGreatDoorKh11
import Derived.Test.YthbpbkbjdfcnjaaGreatDoorKh12
import Derived.Test.YthbpbkbjdfcnjaaGreatDoorKh13
import Derived.Test.YthbpbkbjdfcnjaaGreatDoorKh14
import Derived.Test.YthbpbkbjdfcnjaaGreatDoorKh15
import Derived.Test.YthbpbkbjdfcnjaaGreatDoorKh16
set_option linter.unusedSectionVars false
set_option linter.unusedVariables false
set_option linter.unusedSimpArgs false
section
namespace Go.Proofs.YthbpbkbjdfcnjaaGreatDoor.Pe
open Go Go.RowKit
variable [Tab]
section
variable {w w' : World} {g g' : Gh} {S : Store} {l : Nat} {o : SObj}
end
end Go.Proofs.YthbpbkbjdfcnjaaGreatDoor.Pe
namespace Go.Proofs.YthbpbkbjdfcnjaaGreatDoor.Pe
open Go Go.RowKit
variable [Tab]
section
variable {P : Program}
end
end Go.Proofs.YthbpbkbjdfcnjaaGreatDoor.Pe
namespace Go.Proofs.YthbpbkbjdfcnjaaGreatDoor.Pe
open Go Go.RowKit
variable [Tab]
section
variable {P : Program} {w : World} {g : Gh}
end
end Go.Proofs.YthbpbkbjdfcnjaaGreatDoor.Pe
namespace Go.Proofs.YthbpbkbjdfcnjaaGreatDoor.Pe
open Go Go.RowKit
variable [Tab]
section
variable {P : Program} {w : World} {g : Gh} {S : Store}
end
end Go.Proofs.YthbpbkbjdfcnjaaGreatDoor.Pe
namespace Go.Proofs.YthbpbkbjdfcnjaaGreatDoor.Pe
open Go Go.RowKit
variable [Tab]
section
variable {P : Program} {w : World} {g : Gh} {S : Store}
end
end Go.Proofs.YthbpbkbjdfcnjaaGreatDoor.Pe
namespace Go.Proofs.YthbpbkbjdfcnjaaGreatDoor.Pe
open Go Go.RowKit
variable [Tab]
def aAppW (P : Program) (t u : TypeId) (S : Store) (x y : AV) : Option (AV × SObj) :=
 match appOf P t, srcOf P u y, x with
 | some (e, sz, by_), some ys, .sl .full es => if allSz sz es = true ∧ allSz sz ys = true ∧ fits (es.length + ys.length) by_ = true ∧ es = [] then
   some (.wr S.length ys.length none, .row (flat ys) e sz) else none
 | _, _, _ => none
section
variable {P : Program} {w : World} {g : Gh} {S : Store}
end
end Go.Proofs.YthbpbkbjdfcnjaaGreatDoor.Pe
end
section
namespace Go.Proofs.YthbpbkbjdfcnjaaGreatDoor
open Go.RowKit Sm
set_option maxRecDepth 100000
theorem val_int {k : IntKind} {a b : Int} (h : a = b) : Value.int k a = .int k b := by rw [h]
end Go.Proofs.YthbpbkbjdfcnjaaGreatDoor
namespace Go.Proofs.YthbpbkbjdfcnjaaGreatDoor
open Go.RowKit Sm
set_option maxRecDepth 100000
end Go.Proofs.YthbpbkbjdfcnjaaGreatDoor
namespace Go.Proofs.YthbpbkbjdfcnjaaGreatDoor
open Go.RowKit Sm
set_option maxRecDepth 100000
end Go.Proofs.YthbpbkbjdfcnjaaGreatDoor
namespace Go.Proofs.YthbpbkbjdfcnjaaGreatDoor
open Go.RowKit Sm
set_option maxRecDepth 100000
end Go.Proofs.YthbpbkbjdfcnjaaGreatDoor
namespace Go.Proofs.YthbpbkbjdfcnjaaGreatDoor
open Go.RowKit Sm
set_option maxRecDepth 100000
end Go.Proofs.YthbpbkbjdfcnjaaGreatDoor
namespace Go.Proofs.YthbpbkbjdfcnjaaGreatDoor
open Go.RowKit Sm
set_option maxRecDepth 100000
end Go.Proofs.YthbpbkbjdfcnjaaGreatDoor
end
section
namespace Go.Proofs.YthbpbkbjdfcnjaaGreatDoor.Sm
end Go.Proofs.YthbpbkbjdfcnjaaGreatDoor.Sm
namespace Go.Proofs.YthbpbkbjdfcnjaaGreatDoor
open Go
section
variable {P : Program} {t : TypeId}
end
namespace Sm
theorem num_last (l : List UInt8) : 32 * (nat8 l 7 : Int) + ((l.getD 7 0).toNat : Int) / 8 = (num l : Int) := by
 have h : nat8 l 8 = 256 * nat8 l 7 + (l.getD 7 0).toNat := rfl
 unfold num
 rw [h]
 generalize nat8 l 7 = n
 generalize (l.getD 7 0).toNat = b
 omega
end Sm
end Go.Proofs.YthbpbkbjdfcnjaaGreatDoor
namespace Go.Proofs.YthbpbkbjdfcnjaaGreatDoor.Sm
end Go.Proofs.YthbpbkbjdfcnjaaGreatDoor.Sm
end
section
namespace Go.Proofs.YthbpbkbjdfcnjaaGreatDoor
open Go.RowKit Sm
theorem rnum_any (s : ByteArray) (w : World) (hs : s.size ≤ 9223372036854775807) :
  Calls Tryz.prog 185 #[.string s] w fun e w' => e = .returned (.int .i64 (num s.data.toList)) ∧ w = w' := by
 go_enter Tryz.func185, Tryz.ntmps185
 go_wp2
 go_loop [3, 4, 5] (fun r i _ => ∃ k : Nat, k ≤ 8 ∧ i = .int .i64 k ∧ r = .int .i64 (if k ≤ 7 then (nat8 s.data.toList k : Int) else (num s.data.toList : Int))) (fun _ i _ => 8 - (intOf i).toNat)
 case atStart => exact ⟨0, by omega, rfl, rfl⟩
 case round =>
  obtain ⟨k, hk, rfl, rfl⟩ := hrel
  by_cases hlt : k < 8
  ·have h7 : k ≤ 7 := by omega
   rw [if_pos h7]
   have hn := nat8_lt s.data.toList k
   have hp : 256 ^ k ≤ 256 ^ 7 := Nat.pow_le_pow_right (by omega) h7
   have hnb : nat8 s.data.toList k < 72057594037927936 := by omega
   clear hn hp
   obtain ⟨b, hb⟩ : ∃ b : Nat, b = (s.data.toList.getD k 0).toNat := ⟨_, rfl⟩
   have hb8 : b < 256 := by have := (s.data.toList.getD k 0).toNat_lt; omega
   have st : k < 7 → ((nat8 s.data.toList (k + 1) : Nat) : Int) = 256 * (nat8 s.data.toList k : Int) + (b : Int) := by
    intro _; rw [nat8, hb]; omega
   have hsm : k < 7 → nat8 s.data.toList k < 281474976710656 := by
    intro h
    have h1 := nat8_lt s.data.toList k
    have h2 : 256 ^ k ≤ 256 ^ 6 := Nat.pow_le_pow_right (by omega) (by omega)
    omega
   have sl : k = 7 → (num s.data.toList : Int) = 32 * (nat8 s.data.toList k : Int) + (b : Int) / 8 := by
    intro h; subst h; rw [hb]; exact (num_last _).symm
   have ek : ∀ (h : k < s.size), ((s[k]).toNat : Int) = (b : Int) := by
    intro h
    rw [hb, List.getD_eq_getElem?_getD, List.getElem?_eq_getElem (by simpa using h)]; rfl
   have e0 : ¬ k < s.size → (b : Int) = 0 := by
    intro h
    rw [hb, List.getD_eq_getElem?_getD, List.getElem?_eq_none (by simp; omega)]; rfl
   clear hb
   generalize hn : nat8 s.data.toList k = n at st sl hnb hsm ⊢
   have Hn := Veil.mk hn
   have St := Veil.mk st
   have Sl := Veil.mk sl
   have Ek := Veil.mk ek
   have E0 := Veil.mk e0
   have Hsm := Veil.mk hsm
   clear hn st sl ek e0 hsm
   by_cases hl : k < s.size
   ·have ek := Ek.out hl
    by_cases hk7 : k < 7
    ·have hsm := Hsm.out hk7
     go_wp2
     go_round
     case rel => exact ⟨k + 1, by omega, by go_num, val_int (by rw [if_pos (by omega), St.out hk7])⟩
     case measure => simp [intOf]; omega
    ·go_wp2
     go_round
     case rel => exact ⟨k + 1, by omega, by go_num, val_int (by rw [if_neg (by omega), Sl.out (by omega)])⟩
     case measure => simp [intOf]; omega
   ·by_cases hk7 : k < 7
    ·have hsm := Hsm.out hk7
     go_wp2
     go_round
     case rel => exact ⟨k + 1, by omega, by go_num, val_int (by rw [if_pos (by omega), St.out hk7, E0.out hl, Int.add_zero])⟩
     case measure => simp [intOf]; omega
    ·go_wp2
     go_round
     case rel => exact ⟨k + 1, by omega, by go_num, val_int (by rw [if_neg (by omega), Sl.out (by omega), E0.out hl]; rfl)⟩
     case measure => simp [intOf]; omega
  ·obtain rfl : k = 8 := by omega
   rw [if_neg (by omega)]
   go_wp2
   go_ret
   exact ⟨rfl, rfl⟩
end Go.Proofs.YthbpbkbjdfcnjaaGreatDoor
namespace Go.Proofs.YthbpbkbjdfcnjaaGreatDoor
open Go.RowKit Sm
end Go.Proofs.YthbpbkbjdfcnjaaGreatDoor
namespace Go.Proofs.YthbpbkbjdfcnjaaGreatDoor
open Go.RowKit Sm
end Go.Proofs.YthbpbkbjdfcnjaaGreatDoor
namespace Go.Proofs.YthbpbkbjdfcnjaaGreatDoor
open Go.RowKit Sm
end Go.Proofs.YthbpbkbjdfcnjaaGreatDoor
end
section
namespace Go.Proofs.YthbpbkbjdfcnjaaGreatDoor.Sl
open Go Co Sg Ac It
def findE (ps : List Int) (l : List It.Entry) (hs : List Head) (h : Head) : Evidence × Bool :=
 match hs.getLast? with
 | none => (evid0, false)
 | some x => if (mkEv l x h).2 = true ∧ checkE ps (mkEv l x h).1 = true then ((mkEv l x h).1, true) else (evid0, false)
end Go.Proofs.YthbpbkbjdfcnjaaGreatDoor.Sl
namespace Go.Proofs.YthbpbkbjdfcnjaaGreatDoor.Sl
open Go Co Sg Ac It
end Go.Proofs.YthbpbkbjdfcnjaaGreatDoor.Sl
namespace Go.Proofs.YthbpbkbjdfcnjaaGreatDoor.Sl
open Go Co Sg Ac It
end Go.Proofs.YthbpbkbjdfcnjaaGreatDoor.Sl
end
section
namespace Go.Proofs.YthbpbkbjdfcnjaaGreatDoor.Pe
open Go Go.RowKit Co Sg Ac It Sl
set_option maxRecDepth 100000
set_option maxHeartbeats 4000000
abbrev headsV (l : List Head) : AV := .sl .ro (l.map headV)
theorem heads_sz (l : List Head) : allSz 6 (l.map headV) = true := allSz_map 6 headV (fun _ => rfl) _
end Go.Proofs.YthbpbkbjdfcnjaaGreatDoor.Pe
end
section
namespace Go.Proofs.YthbpbkbjdfcnjaaGreatDoor.Pe
open Go Go.RowKit Co Sg Ac It
set_option maxRecDepth 100000
set_option maxHeartbeats 4000000
theorem shp_intsI {n us} (h : shp Tryz.prog 140737488351232 (n + 2) 22 us) : ∃ l : List Int, us = [intsV l] ∧ InL l := by
 obtain ⟨l, h1, h2, h3⟩ := shp_slice (AV.it .i64) (fun i : Int => -9223372036854775808 ≤ i ∧ i ≤ 9223372036854775807) Tryz.underlying22 h (fun x hx => by
  obtain ⟨i, rfl, hi⟩ := shp_i64 Tryz.underlying3 hx
  exact ⟨i, by rw [show aggT Tryz.prog 3 = false from by kernel_rfl]; rfl, hi⟩)
 exact ⟨l, h1, h2, h3⟩
end Go.Proofs.YthbpbkbjdfcnjaaGreatDoor.Pe
end
section
namespace Go.Proofs.YthbpbkbjdfcnjaaGreatDoor.Pe
open Go Go.RowKit Co Sg Ac It Sl
set_option maxRecDepth 100000
set_option maxHeartbeats 4000000
abbrev mirV (m : Mirror) : AV := .agg [.it .i64 m.server, entriesV m.entries, headsV m.heads]
end Go.Proofs.YthbpbkbjdfcnjaaGreatDoor.Pe
end
section
namespace Go.Proofs.YthbpbkbjdfcnjaaGreatDoor.Pe
open Go Go.RowKit Co Sg Ac It Sl
set_option maxRecDepth 100000
set_option maxHeartbeats 4000000
theorem linkE_len (l : List By) (m : Nat) (hm : m ≤ l.length) : (linkE l m).length ≤ l.length := by
 unfold linkE
 split
 ·exact Nat.zero_le _
 ·exact link_len l.length l m true (by omega) hm (Nat.le_refl _)
theorem fkfind_c (ps : List Int) (m : Mirror) (h : Head) (hp : InL ps) (hm : EOk m.entries) (hh : m.heads.length ≤ 1000000) : AC Tryz.prog 42 [intsV ps, mirV m, headV h] [] (.tup [evV (findE ps m.entries m.heads h).1, .bo (findE ps m.entries m.heads h).2]) [] := by
 refine AC.enter2 [35, 36] [] Tryz.func42 rfl (by decide) (by decide) (Nat.le_of_ble_eq_true rfl) (by kernel_rfl) ?_; simp only [eraseC, eraseO, List.map_cons, List.map_nil, List.map_toArray, List.getElem?_toArray, List.getElem?_cons_zero, List.getElem?_cons_succ, Option.bind_some, Option.bind_none, List.append_eq, List.cons_append, List.nil_append]
 have hszh := heads_sz m.heads
 cases hgl : m.heads.getLast? with
 | none =>
  have h0 : m.heads = [] := List.getLast?_eq_none_iff.1 hgl
  have hl0 : m.heads.length = 0 := by rw [h0]; rfl
  have hv : findE ps m.entries m.heads h = (evid0, false) := by unfold findE; rw [hgl]
  rw [hv]
  refine runf @hl0 ?_
  exact er0w
 | some x =>
  have hpos : 0 < m.heads.length := by
   cases hh : m.heads with
   | nil => rw [hh] at hgl; cases hgl
   | cons a b => simp
  obtain ⟨n, hn⟩ : ∃ n, m.heads.length = n + 1 := ⟨m.heads.length - 1, by omega⟩
  have hg : m.heads[n]? = some x := by rw [List.getLast?_eq_getElem?, hn] at hgl; simpa using hgl
  have hc : (m.heads.length : Int) - 1 = (n : Int) := by omega
  have hl0 : ((m.heads.length : Int) == 0) = false := beqF (by omega)
  have k1 := fkmake_c m.entries x h hm
  have hlk : (mkEv m.entries x h).1.link.length ≤ 1000000 := by
   unfold mkEv
   split
   ·exact Nat.zero_le _
   ·split
    ·exact Nat.zero_le _
    ·rename_i c1 c2
     have := hm.len
     have hlen : ((m.entries.take x.size.toNat).map leafE).length ≤ 1000000 := by rw [List.length_map, List.length_take]; omega
     refine Nat.le_trans (linkE_len _ _ ?_) hlen
     rw [List.length_map, List.length_take]
     omega
  have k2 := fkcheck_c ps (mkEv m.entries x h).1 hp hlk
  have hv : findE ps m.entries m.heads h = if (mkEv m.entries x h).2 = true ∧ checkE ps (mkEv m.entries x h).1 = true then ((mkEv m.entries x h).1, true) else (evid0, false) := by unfold findE; rw [hgl]
  generalize mkEv m.entries x h = r at *
  obtain ⟨ev, ok⟩ := r
  simp only at k1 k2 hv
  cases ok with
  | false =>
   rw [if_neg (fun h => by cases h.1)] at hv
   rw [hv]
   refine runf (an @hl0 (an @hc (an @hg @hszh))) ?_
   refine cp k1 ?_
   refine run ?_
   exact er0w
  | true =>
   cases hck : checkE ps ev with
   | false =>
    rw [hck] at k2
    rw [if_neg (fun h => by rw [hck] at h; cases h.2)] at hv
    rw [hv]
    refine runf (an @hl0 (an @hc (an @hg @hszh))) ?_
    refine cp k1 ?_
    refine run ?_
    refine cp k2 ?_
    refine run ?_
    exact er0w
   | true =>
    rw [hck] at k2
    rw [if_pos ⟨rfl, hck⟩] at hv
    rw [hv]
    refine runf (an @hl0 (an @hc (an @hg @hszh))) ?_
    refine cp k1 ?_
    refine run ?_
    refine cp k2 ?_
    refine run ?_
    exact er0w
end Go.Proofs.YthbpbkbjdfcnjaaGreatDoor.Pe
end
section
namespace Go.Proofs.YthbpbkbjdfcnjaaGreatDoor.Pe
open Go Sm Mk
set_option maxRecDepth 100000
theorem rinner_c (k : Nat) : ∀ (l : List By) (m : Nat) (w : Bool), l.length ≤ k → 0 < m → m ≤ l.length → l.length ≤ 1000000 → (∀ x ∈ l, x.length ≤ 1000000) →
  AC Tryz.prog 181 [sls l, .it .i64 m, .bo w] [] (.sl (.own 0) ((link l m w).map .st)) [.buf (link l m w).length 9 1] := by
 induction k with
 | zero => intro l m w h1 h2; omega
 | succ k ih =>
  intro l m w hk h0 hm hl hx
  refine AC.enter [87, 91] [] Tryz.func181 rfl (by decide) (by decide) (Nat.le_of_ble_eq_true rfl) (by kernel_rfl) ?_; simp only [eraseC, eraseO, List.map_cons, List.map_nil, List.map_toArray, List.getElem?_toArray, List.getElem?_cons_zero, List.getElem?_cons_succ, Option.bind_some, Option.bind_none, List.append_eq, List.cons_append, List.nil_append]
  by_cases h1 : m = l.length
  ·subst h1
   rw [link_all]
   cases w
   ·have f1 := rroot_c _ l (Nat.le_refl _) hl hx
    rw [root_rt (by omega)] at f1
    refine run ?_
    refine call_pure f1 (by rfl) (by rfl) (by rfl) ?_
    refine run ?_
    refine ends_retW _ _ (Weak.reserve _ 6 (es := [.st (rt l)]) (by rfl) 9 1) [0] (by rfl) (subOk_one 0 (by rfl) (by rfl)) (by rfl) (by rfl) (by rfl)
   ·refine run ?_
    refine ends_retW _ _ (Weak.reserve _ 6 (es := []) (by rfl) 9 1) [0] (by rfl) (subOk_one 0 (by rfl) (by rfl)) (by rfl) (by rfl) (by rfl)
  ·have h2 : 2 ≤ l.length := by omega
   have h3 := sp_lt h2
   have h4 := sp_pos l.length
   have ht : (List.take (sp l.length) l).length = sp l.length := by simp; omega
   have hd : (l.drop (sp l.length)).length = l.length - sp l.length := List.length_drop
   have hxt : ∀ x ∈ l.take (sp l.length), x.length ≤ 1000000 := fun x hx' => hx x (List.mem_of_mem_take hx')
   have hxd : ∀ x ∈ l.drop (sp l.length), x.length ≤ 1000000 := fun x hx' => hx x (List.mem_of_mem_drop hx')
   have f1 := rroot_c _ (l.take (sp l.length)) (Nat.le_refl _) (by omega) hxt
   have f2 := rroot_c _ (l.drop (sp l.length)) (Nat.le_refl _) (by omega) hxd
   rw [root_rt (by omega)] at f1 f2
   refine run ?_
   refine call_pure (rsplit_c l.length h2 (by omega)) (by rfl) (by rfl) (by rfl) ?_
   by_cases hs : m ≤ sp l.length
   ·have hp := link_len (l.take (sp l.length)).length (l.take (sp l.length)) m w h0 (by omega) (Nat.le_refl _)
    refine runf (@List.take_length (List UInt8)) ?_
    refine call_mk (ih (l.take (sp l.length)) m w (by omega) h0 (by omega) (by omega) hxt) ?_
    refine runf (@List.take_length (List UInt8)) ?_
    refine call_pure f2 (by rfl) (by rfl) (by rfl) ?_
    refine run ?_
    rw [link_two h0 (by omega), if_pos hs]
    exact ends_ret (κ := [0]) (by rfl) (subOk_one 0 (by rfl) (by simp [SObj.ren])) (by rfl) (by rfl) (by simp [resV, AV.ren, AV.r2, AV.r1, AV.r0, Mode.ren, idx, ↓upd_apply])
   ·have hp := link_len (l.drop (sp l.length)).length (l.drop (sp l.length)) (m - sp l.length) false (by omega) (by omega) (Nat.le_refl _)
    have hsub : ((m : Int) - (sp l.length : Int)) = ((m - sp l.length : Nat) : Int) := by omega
    refine runf (an (@List.take_length (List UInt8)) @hsub) ?_
    refine call_mk (ih (l.drop (sp l.length)) (m - sp l.length) false (by omega) (by omega) (by omega) (by omega) hxd) ?_
    refine runf (@List.take_length (List UInt8)) ?_
    refine call_pure f1 (by rfl) (by rfl) (by rfl) ?_
    refine run ?_
    rw [link_two h0 (by omega), if_neg hs]
    exact ends_ret (κ := [0]) (by rfl) (subOk_one 0 (by rfl) (by simp [SObj.ren])) (by rfl) (by rfl) (by simp [resV, AV.ren, AV.r2, AV.r1, AV.r0, Mode.ren, idx, ↓upd_apply])
theorem rlink_c (l : List By) (m : Nat) (hm : m ≤ l.length) (hl : l.length ≤ 1000000) (hx : ∀ x ∈ l, x.length ≤ 1000000) :
  AC Tryz.prog 141 [sls l, .it .i64 m] [] (sls (if m = 0 then [] else link l m true)) [] := by
 refine AC.enter [] [] Tryz.func141 rfl (by decide) (by decide) (Nat.le_of_ble_eq_true rfl) (by kernel_rfl) ?_; simp only [eraseC, eraseO, List.map_cons, List.map_nil, List.map_toArray, List.getElem?_toArray, List.getElem?_cons_zero, List.getElem?_cons_succ, Option.bind_some, Option.bind_none, List.append_eq, List.cons_append, List.nil_append]
 by_cases h0 : m = 0
 ·refine run ?_
  rw [if_pos h0]
  exact ends_ret0w (by rfl) (by rfl) (by rfl)
 ·rw [if_neg h0]
  refine run ?_
  refine call_mk (rinner_c l.length l m true (Nat.le_refl _) (by omega) hm hl hx) ?_
  refine run ?_
  exact ends_ret0w (by rfl) (by rfl) (by rfl)
end Go.Proofs.YthbpbkbjdfcnjaaGreatDoor.Pe
end
section
namespace Go.Proofs.YthbpbkbjdfcnjaaGreatDoor.Pe
open Go Go.RowKit Co
set_option maxRecDepth 100000
set_option maxHeartbeats 4000000
end Go.Proofs.YthbpbkbjdfcnjaaGreatDoor.Pe
namespace Go.Proofs.YthbpbkbjdfcnjaaGreatDoor.Pe
open Go Go.RowKit Co Sg
set_option maxRecDepth 100000
set_option maxHeartbeats 4000000
theorem emod_tmod (a m : Int) (hm : 0 < m) : a % m = if a.tmod m < 0 then a.tmod m + m else a.tmod m := by
 rw [Int.emod_eq_tmod]
 have hb := Int.emod_nonneg a (show m ≠ 0 by omega)
 have ht := Int.tmod_lt_of_pos a hm
 by_cases h0 : 0 ≤ a
 ·have := Int.tmod_nonneg m h0
  rw [if_pos (.inl h0), if_neg (by omega)]; omega
 ·by_cases hd : m ∣ a
  ·rw [if_pos (.inr hd), Int.tmod_eq_zero_of_dvd hd]; simp
  ·have hneg : a.tmod m < 0 := by
    have h2 := Int.emod_eq_tmod (a := a) (b := m)
    rw [if_neg (by rintro (h | h); exact h0 h; exact hd h)] at h2
    have h3 := Int.emod_lt_of_pos a hm
    have : (m.natAbs : Int) = m := by omega
    omega
   rw [if_neg (by rintro (h | h); exact h0 h; exact hd h), if_pos hneg]
   omega
theorem and31 (a : Nat) (ha : a < 18446744073709551616) : Go.bits .and .u64 (a : Int) 2147483647 = ((a % 2147483648 : Nat) : Int) := by
 have := bits_nat .and Nat.land (.inl ⟨rfl, rfl⟩) a 2147483647 ha (by omega) .u64 (.inl rfl)
 have e : Nat.land a 2147483647 = a % 2147483648 := Nat.and_two_pow_sub_one_eq_mod a 31
 rw [e] at this
 exact this.trans (wrapn (by omega))
theorem and30 (a : Nat) (ha : a < 18446744073709551616) : Go.bits .and .u64 (a : Int) 1073741823 = ((a % 1073741824 : Nat) : Int) := by
 have := bits_nat .and Nat.land (.inl ⟨rfl, rfl⟩) a 1073741823 ha (by omega) .u64 (.inl rfl)
 have e : Nat.land a 1073741823 = a % 1073741824 := Nat.and_two_pow_sub_one_eq_mod a 30
 rw [e] at this
 exact this.trans (wrapn (by omega))
theorem wrapi {n : Nat} (h : n < 9223372036854775808) : IntKind.i64.wrap (n : Int) = (n : Int) := wrap64 (by omega) (by omega)
theorem mul_parts31 (x0 x1 y0 y1 : Nat) : (x1 * 2147483648 + x0) * (y1 * 2147483648 + y0) = x1 * y1 * 4611686018427387904 + (x1 * y0 + x0 * y1) * 2147483648 + x0 * y0 := by
 grind
theorem rmod_c (a m : Int) (hm : 0 < m) (hm' : m < 4611686018427387904) (ha : -9223372036854775808 ≤ a ∧ a ≤ 9223372036854775807) : AC Tryz.prog 183 [.it .i64 a, .it .i64 m] [] (.it .i64 (a % m)) [] := by
 refine AC.enter [] [] Tryz.func183 rfl (by decide) (by decide) (Nat.le_of_ble_eq_true rfl) (by kernel_rfl) ?_; simp only [eraseC, eraseO, List.map_cons, List.map_nil, List.map_toArray, List.getElem?_toArray, List.getElem?_cons_zero, List.getElem?_cons_succ, Option.bind_some, Option.bind_none, List.append_eq, List.cons_append, List.nil_append]
 have h1 := emod_tmod a m hm
 have h2 : -m ≤ a.tmod m ∧ a.tmod m < m := by
  have hb := Int.emod_nonneg a (show m ≠ 0 by omega)
  have hc := Int.emod_lt_of_pos a hm
  have ht := Int.tmod_lt_of_pos a hm
  split at h1 <;> omega
 have hm0 : m ≠ 0 := by omega
 obtain ⟨t, ht⟩ : ∃ t, a.tmod m = t := ⟨_, rfl⟩
 rw [ht] at h1 h2
 rw [h1]
 by_cases h0 : t < 0
 ·rw [if_pos h0]
  refine runf (an @ht @hm0) ?_
  exact er0
 ·rw [if_neg h0]
  refine runf (an @ht @hm0) ?_
  exact er0
theorem rparts_c (a b : Nat) (ha : a < 2305843009213693952) (hb : b < 2305843009213693952) : AC Tryz.prog 186 [.it .i64 a, .it .i64 b] [] (.tup [.it .u64 ((a / 2147483648 * (b / 2147483648) : Nat) : Int), .it .u64 ((a / 2147483648 * (b % 2147483648) + a % 2147483648 * (b / 2147483648) : Nat) : Int), .it .u64 ((a % 2147483648 * (b % 2147483648) : Nat) : Int)]) [] := by
 refine AC.enter [] [] Tryz.func186 rfl (by decide) (by decide) (Nat.le_of_ble_eq_true rfl) (by kernel_rfl) ?_; simp only [eraseC, eraseO, List.map_cons, List.map_nil, List.map_toArray, List.getElem?_toArray, List.getElem?_cons_zero, List.getElem?_cons_succ, Option.bind_some, Option.bind_none, List.append_eq, List.cons_append, List.nil_append]
 have wa := wrapn (n := a) (by omega)
 have wb := wrapn (n := b) (by omega)
 have hx0 := and31 a (by omega)
 have hy0 := and31 b (by omega)
 have hx1 := shr_lit a 31 31 rfl (by omega)
 have hy1 := shr_lit b 31 31 rfl (by omega)
 rw [show (2 : Nat) ^ 31 = 2147483648 from rfl] at hx1 hy1
 have b0 : a % 2147483648 ≤ 2147483647 := by omega
 have b1 : a / 2147483648 ≤ 1073741823 := by omega
 have b2 : b % 2147483648 ≤ 2147483647 := by omega
 have b3 : b / 2147483648 ≤ 1073741823 := by omega
 generalize a % 2147483648 = x0 at *
 generalize a / 2147483648 = x1 at *
 generalize b % 2147483648 = y0 at *
 generalize b / 2147483648 = y1 at *
 have p00 : x0 * y0 ≤ 2147483647 * 2147483647 := Nat.mul_le_mul b0 b2
 have p10 : x1 * y0 ≤ 1073741823 * 2147483647 := Nat.mul_le_mul b1 b2
 have p01 : x0 * y1 ≤ 2147483647 * 1073741823 := Nat.mul_le_mul b0 b3
 have p11 : x1 * y1 ≤ 1073741823 * 1073741823 := Nat.mul_le_mul b1 b3
 have c00 : ((x0 : Int) * (y0 : Int)) = ((x0 * y0 : Nat) : Int) := by push_cast; rfl
 have c10 : ((x1 : Int) * (y0 : Int)) = ((x1 * y0 : Nat) : Int) := by push_cast; rfl
 have c01 : ((x0 : Int) * (y1 : Int)) = ((x0 * y1 : Nat) : Int) := by push_cast; rfl
 have c11 : ((x1 : Int) * (y1 : Int)) = ((x1 * y1 : Nat) : Int) := by push_cast; rfl
 generalize x0 * y0 = q00 at *
 generalize x1 * y0 = q10 at *
 generalize x0 * y1 = q01 at *
 generalize x1 * y1 = q11 at *
 have w00 : IntKind.u64.wrap (q00 : Int) = (q00 : Int) := wrapn (by omega)
 have w10 : IntKind.u64.wrap (q10 : Int) = (q10 : Int) := wrapn (by omega)
 have w01 : IntKind.u64.wrap (q01 : Int) = (q01 : Int) := wrapn (by omega)
 have w11 : IntKind.u64.wrap (q11 : Int) = (q11 : Int) := wrapn (by omega)
 have ws : IntKind.u64.wrap ((q10 : Int) + (q01 : Int)) = ((q10 + q01 : Nat) : Int) := by rw [wrapu]; omega
 refine runf (an @wa (an @wb (an @hx0 (an @hy0 (an @hx1 (an @hy1 (an @c00 (an @c10 (an @c01 (an @c11 (an @w00 (an @w10 (an @w01 (an @w11 @ws)))))))))))))) ?_
 exact er0
theorem rmul_c (a b : Int) (ha : -9223372036854775808 ≤ a ∧ a ≤ 9223372036854775807) (hb : -9223372036854775808 ≤ b ∧ b ≤ 9223372036854775807) : AC Tryz.prog 184 [.it .i64 a, .it .i64 b] [] (.it .i64 (mulI a b : Nat)) [] := by
 refine AC.enter [183, 186] [] Tryz.func184 rfl (by decide) (by decide) (Nat.le_of_ble_eq_true rfl) (by kernel_rfl) ?_; simp only [eraseC, eraseO, List.map_cons, List.map_nil, List.map_toArray, List.getElem?_toArray, List.getElem?_cons_zero, List.getElem?_cons_succ, Option.bind_some, Option.bind_none, List.append_eq, List.cons_append, List.nil_append]
 unfold mulI
 have a1 := Int.emod_nonneg a (show (2305843009213693951 : Int) ≠ 0 by omega)
 have a2 := Int.emod_lt_of_pos a (show (0 : Int) < 2305843009213693951 by omega)
 have b1 := Int.emod_nonneg b (show (2305843009213693951 : Int) ≠ 0 by omega)
 have b2 := Int.emod_lt_of_pos b (show (0 : Int) < 2305843009213693951 by omega)
 obtain ⟨x, hx⟩ := Int.eq_ofNat_of_zero_le a1
 obtain ⟨y, hy⟩ := Int.eq_ofNat_of_zero_le b1
 have ra := rmod_c a 2305843009213693951 (by omega) (by omega) ha
 have rb := rmod_c b 2305843009213693951 (by omega) (by omega) hb
 rw [hx] at ra a1 a2 ⊢
 rw [hy] at rb b1 b2 ⊢
 rw [Int.toNat_natCast, Int.toNat_natCast]
 have hm := rparts_c x y (by omega) (by omega)
 have hxy : x * y = x / 2147483648 * (y / 2147483648) * 4611686018427387904 + (x / 2147483648 * (y % 2147483648) + x % 2147483648 * (y / 2147483648)) * 2147483648 + x % 2147483648 * (y % 2147483648) := by
  rw [← mul_parts31, Nat.div_add_mod', Nat.div_add_mod']
 have d0 : x % 2147483648 ≤ 2147483647 := by omega
 have d1 : x / 2147483648 ≤ 1073741823 := by omega
 have d2 : y % 2147483648 ≤ 2147483647 := by omega
 have d3 : y / 2147483648 ≤ 1073741823 := by omega
 generalize x % 2147483648 = x0 at *
 generalize x / 2147483648 = x1 at *
 generalize y % 2147483648 = y0 at *
 generalize y / 2147483648 = y1 at *
 have p00 : x0 * y0 ≤ 2147483647 * 2147483647 := Nat.mul_le_mul d0 d2
 have p10 : x1 * y0 ≤ 1073741823 * 2147483647 := Nat.mul_le_mul d1 d2
 have p01 : x0 * y1 ≤ 2147483647 * 1073741823 := Nat.mul_le_mul d0 d3
 have p11 : x1 * y1 ≤ 1073741823 * 1073741823 := Nat.mul_le_mul d1 d3
 have hmid : x1 * y0 + x0 * y1 ≤ 4611686018427387904 := by omega
 generalize x1 * y0 + x0 * y1 = md at *
 generalize x1 * y1 = hi at *
 generalize x0 * y0 = lo at *
 generalize x * y = xy at *
 have k1 := shr_lit md 30 30 rfl (by omega)
 rw [show (2 : Nat) ^ 30 = 1073741824 from rfl] at k1
 have k2 := and30 md (by omega)
 have k3 := shl_lit (md % 1073741824) 31 31 rfl (by omega)
 have e3 : md % 1073741824 * 2 ^ 31 % 18446744073709551616 = md % 1073741824 * 2147483648 := by omega
 rw [e3] at k3
 have k4 : IntKind.u64.wrap (2 * (hi : Int)) = ((2 * hi : Nat) : Int) := by rw [wrapu]; omega
 have k5 : IntKind.u64.wrap (((2 * hi : Nat) : Int) + ((md / 1073741824 : Nat) : Int)) = ((2 * hi + md / 1073741824 : Nat) : Int) := by rw [wrapu]; omega
 have k6 : IntKind.u64.wrap (((2 * hi + md / 1073741824 : Nat) : Int) + ((md % 1073741824 * 2147483648 : Nat) : Int)) = ((2 * hi + md / 1073741824 + md % 1073741824 * 2147483648 : Nat) : Int) := by rw [wrapu]; omega
 have k7 : IntKind.u64.wrap (((2 * hi + md / 1073741824 + md % 1073741824 * 2147483648 : Nat) : Int) + (lo : Int)) = ((2 * hi + md / 1073741824 + md % 1073741824 * 2147483648 + lo : Nat) : Int) := by rw [wrapu]; omega
 have k8 : ((2 * hi + md / 1073741824 + md % 1073741824 * 2147483648 + lo : Nat) : Int).tmod 2305843009213693951 = ((xy % 2305843009213693951 : Nat) : Int) := by
  rw [Int.tmod_eq_emod_of_nonneg (by omega)]; omega
 have k9 : IntKind.i64.wrap ((xy % 2305843009213693951 : Nat) : Int) = ((xy % 2305843009213693951 : Nat) : Int) := wrapi (by omega)
 refine run ?_
 refine cp ra ?_
 refine run ?_
 refine cp rb ?_
 refine run ?_
 refine cp hm ?_
 refine runf (an @k1 (an @k2 (an @k3 (an @k4 (an @k5 (an @k6 (an @k7 (an @k8 @k9)))))))) ?_
 exact er0
theorem rexp_c (a e : Int) (ha : -9223372036854775808 ≤ a ∧ a ≤ 9223372036854775807) (he : -9223372036854775808 ≤ e ∧ e ≤ 9223372036854775807) : AC Tryz.prog 144 [.it .i64 a, .it .i64 e] [] (.it .i64 (expI a e : Nat)) [] := by
 refine AC.enter [183, 184] [] Tryz.func144 rfl (by decide) (by decide) (Nat.le_of_ble_eq_true rfl) (by kernel_rfl) ?_; simp only [eraseC, eraseO, List.map_cons, List.map_nil, List.map_toArray, List.getElem?_toArray, List.getElem?_cons_zero, List.getElem?_cons_succ, Option.bind_some, Option.bind_none, List.append_eq, List.cons_append, List.nil_append]
 unfold expI powm
 have a1 := Int.emod_nonneg a (show (2305843009213693951 : Int) ≠ 0 by omega)
 have a2 := Int.emod_lt_of_pos a (show (0 : Int) < 2305843009213693951 by omega)
 have ra := rmod_c a 2305843009213693951 (by omega) (by omega) ha
 obtain ⟨x, hx⟩ := Int.eq_ofNat_of_zero_le a1
 rw [hx] at ra a1 a2 ⊢
 rw [Int.toNat_natCast, Nat.mod_eq_of_lt (show x < 2305843009213693951 by omega)]
 have hE : ∃ n : Nat, n < 9223372036854775808 ∧ ((if e < 0 then (e % 2305843009213693950).toNat else e.toNat) = n) ∧ (if e < 0 then e % 2305843009213693950 else e) = (n : Int) := by
  split
  ·exact ⟨(e % 2305843009213693950).toNat, by omega, rfl, by omega⟩
  ·exact ⟨e.toNat, by omega, rfl, by omega⟩
 obtain ⟨n, hn, en, eI⟩ := hE
 rw [en]
 have hp0 : (n : Nat) < 2 ^ 63 := by omega
 by_cases hneg : e < 0
 focus
  rw [if_pos hneg] at eI
  have re := rmod_c e 2305843009213693950 (by omega) (by omega) he
  rw [eI] at re
  refine run ?_
  refine cp re ?_
  refine run ?_
  refine cp ra ?_
  refine run ?_
 rotate_left
 focus
  rw [if_neg hneg] at eI
  subst eI
  refine run ?_
  refine cp ra ?_
  refine run ?_
 all_goals
  refine loop_mk (fun m e S => S = [] ∧ m ≤ 64 ∧ ∃ q r p : Nat, e 1 = .it .i64 (q : Int) ∧ e 5 = .it .i64 (r : Int) ∧ e 6 = .it .i64 (p : Int) ∧ q < 2 ^ m ∧ q < 9223372036854775808 ∧ r < 2305843009213693951 ∧ p < 2305843009213693951 ∧ powF 64 1 x n = powF m r p q) 64
   ⟨rfl, by omega, n, 1, x, (by first | rfl | (simp only [↓upd_apply, ↓put_some, ↓reduceIte, Nat.reduceEqDiff, ↓argEnv_zero, ↓argEnv_succ, *]; done)), (by first | rfl | (simp only [↓upd_apply, ↓put_some, ↓reduceIte, Nat.reduceEqDiff, ↓argEnv_zero, ↓argEnv_succ, *]; done)), (by first | rfl | (simp only [↓upd_apply, ↓put_some, ↓reduceIte, Nat.reduceEqDiff, ↓argEnv_zero, ↓argEnv_succ, *]; done)), by omega, by omega, by decide, by omega, rfl⟩ ?_
  rintro m e S ⟨rfl, hm, q, r, p, s1, s5, s6, hq, hq2, hr, hp, hpow⟩
  by_cases h0 : q = 0
  ·subst h0
   rw [powF_zero] at hpow
   rw [hpow]
   refine runf (an @s1 (an @s5 @s6)) ?_
   exact er0
  obtain ⟨m', rfl⟩ : ∃ m', m = m' + 1 := ⟨m - 1, by
   cases m with
   | zero => simp at hq; omega
   | succ m => omega⟩
  have hq0 : (0 : Int) < (q : Int) := by omega
  rw [powF_succ m' r p q] at hpow
  have hq' : q / 2 < 2 ^ m' := by rw [Nat.pow_succ] at hq; omega
  have mpp := rmul_c (p : Int) (p : Int) (by omega) (by omega)
  have mrp := rmul_c (r : Int) (p : Int) (by omega) (by omega)
  rw [mulI_nat hp hp] at mpp
  rw [mulI_nat hr hp] at mrp
  have lpp : p * p % 2305843009213693951 < 2305843009213693951 := Nat.mod_lt _ (by decide)
  have lrp : r * p % 2305843009213693951 < 2305843009213693951 := Nat.mod_lt _ (by decide)
  have t1 : (q : Int).tmod 2 = ((q % 2 : Nat) : Int) := by rw [Int.tmod_eq_emod_of_nonneg (by omega)]; omega
  have t2 : (q : Int).tdiv 2 = ((q / 2 : Nat) : Int) := by rw [Int.tdiv_eq_ediv_of_nonneg (by omega)]; omega
  by_cases ho : q % 2 = 1
  ·rw [if_pos ho] at hpow
   have hoI : ((q % 2 : Nat) : Int) = 1 := by omega
   refine runf (an @s1 (an @s5 (an @s6 (an @t1 (an @t2 (an @hoI @hq0)))))) ?_
   refine cp mrp ?_
   refine runf (an @s1 (an @s5 (an @s6 @t2))) ?_
   refine cp mpp ?_
   refine runf (an @s1 (an @s5 (an @s6 @t2))) ?_
   exact round_mk m' (by omega) ⟨rfl, by omega, q / 2, r * p % 2305843009213693951, p * p % 2305843009213693951, (by first | rfl | (simp only [↓upd_apply, ↓put_some, ↓reduceIte, Nat.reduceEqDiff, ↓argEnv_zero, ↓argEnv_succ, *]; done)), (by first | rfl | (simp only [↓upd_apply, ↓put_some, ↓reduceIte, Nat.reduceEqDiff, ↓argEnv_zero, ↓argEnv_succ, *]; done)), (by first | rfl | (simp only [↓upd_apply, ↓put_some, ↓reduceIte, Nat.reduceEqDiff, ↓argEnv_zero, ↓argEnv_succ, *]; done)), hq', by omega, lrp, lpp, hpow⟩
  ·rw [if_neg ho] at hpow
   have hoI : ((q % 2 : Nat) : Int) = 0 := by omega
   refine runf (an @s1 (an @s5 (an @s6 (an @t1 (an @t2 (an @hoI @hq0)))))) ?_
   refine cp mpp ?_
   refine runf (an @s1 (an @s5 (an @s6 @t2))) ?_
   exact round_mk m' (by omega) ⟨rfl, by omega, q / 2, r, p * p % 2305843009213693951, (by first | rfl | (simp only [↓upd_apply, ↓put_some, ↓reduceIte, Nat.reduceEqDiff, ↓argEnv_zero, ↓argEnv_succ, *]; done)), (by first | rfl | (simp only [↓upd_apply, ↓put_some, ↓reduceIte, Nat.reduceEqDiff, ↓argEnv_zero, ↓argEnv_succ, *]; done)), (by first | rfl | (simp only [↓upd_apply, ↓put_some, ↓reduceIte, Nat.reduceEqDiff, ↓argEnv_zero, ↓argEnv_succ, *]; done)), hq', by omega, hr, lpp, hpow⟩
end Go.Proofs.YthbpbkbjdfcnjaaGreatDoor.Pe
namespace Go.Proofs.YthbpbkbjdfcnjaaGreatDoor.Pe
open Go Go.RowKit Co Sg
set_option maxRecDepth 100000
set_option maxHeartbeats 4000000
theorem rsnum_c (l : By) (h : l.length ≤ 140737488355328) : AC Tryz.prog 185 [.st l] [] (.it .i64 (Sm.num l : Nat)) [] := by
 refine AC.ofBelow (by kernel_rfl) fun w g cargs ht hargs => ?_
 rw [lrel_st hargs]
 refine (rnum_any ⟨l.toArray⟩ w (by simp [ByteArray.size]; omega)).mono ?_
 rintro r w' ⟨rfl, rfl⟩
 exact ⟨_, rfl, fun g' => .it g' _ _, Below.refl _ _⟩
theorem rhash_c (l : By) (h : l.length ≤ 1000000000) : AC Tryz.prog 145 [.st l] [] (.it .i64 (Sg.hash l : Nat)) [] := by
 refine AC.enter [92, 185] [] Tryz.func145 rfl (by decide) (by decide) (Nat.le_of_ble_eq_true rfl) (by kernel_rfl) ?_; simp only [eraseC, eraseO, List.map_cons, List.map_nil, List.map_toArray, List.getElem?_toArray, List.getElem?_cons_zero, List.getElem?_cons_succ, Option.bind_some, Option.bind_none, List.append_eq, List.cons_append, List.nil_append]
 have hs : (Sm.sha l).length ≤ 140737488355328 := by show 32 ≤ _; omega
 refine run ?_
 refine cp (rsha_c l (by omega)) ?_
 refine run ?_
 refine cp (rsnum_c _ hs) ?_
 refine run ?_
 exact er0
theorem rchallenge_c (r p : Int) (m : By) (hm : m.length ≤ 100000000) (hr : -9223372036854775808 ≤ r ∧ r ≤ 9223372036854775807) (hp : -9223372036854775808 ≤ p ∧ p ≤ 9223372036854775807) : AC Tryz.prog 147 [.it .i64 r, .it .i64 p, .st m] [] (.it .i64 (challenge r p m : Nat)) [] := by
 refine AC.enter [78, 128, 145] [] Tryz.func147 rfl (by decide) (by decide) (Nat.le_of_ble_eq_true rfl) (by kernel_rfl) ?_; simp only [eraseC, eraseO, List.map_cons, List.map_nil, List.map_toArray, List.getElem?_toArray, List.getElem?_cons_zero, List.getElem?_cons_succ, Option.bind_some, Option.bind_none, List.append_eq, List.cons_append, List.nil_append]
 have tw : (text wSign).length = 5 := by rfl
 have tm := text_le m hm
 have l1 := numI_len r (by omega)
 have l2 := numI_len p (by omega)
 have hlt := hash_lt (text wSign ++ numI r ++ numI p ++ text m)
 unfold challenge
 have hh := rhash_c (text wSign ++ numI r ++ numI p ++ text m) (by simp only [List.length_append]; omega)
 generalize Sg.hash (text wSign ++ numI r ++ numI p ++ text m) = h at *
 have e : (h : Int).tmod 2305843009213693950 = ((h % 2305843009213693950 : Nat) : Int) := by rw [Int.tmod_eq_emod_of_nonneg (by omega)]; omega
 refine run ?_
 refine cp (ftext_c wSign (by simp)) ?_
 refine run ?_
 refine cp (fnum_c r (by omega)) ?_
 refine run ?_
 refine cp (fnum_c p (by omega)) ?_
 refine run ?_
 refine cp (ftext_c m (by omega)) ?_
 refine run ?_
 refine cp hh ?_
 refine runf @e ?_
 exact er0
theorem rcommit_c (p : Int) (s : Sig) (h1 : 1 ≤ p) (h2 : p < 2305843009213693951) (re : 0 ≤ s.e ∧ s.e < 2305843009213693950) (rs : 0 ≤ s.s ∧ s.s < 2305843009213693950) : AC Tryz.prog 213 [.it .i64 p, sigV s] [] (.it .i64 (commit p s : Nat)) [] := by
 refine AC.enter [144, 184] [] Tryz.func213 rfl (by decide) (by decide) (Nat.le_of_ble_eq_true rfl) (by kernel_rfl) ?_; simp only [eraseC, eraseO, List.map_cons, List.map_nil, List.map_toArray, List.getElem?_toArray, List.getElem?_cons_zero, List.getElem?_cons_succ, Option.bind_some, Option.bind_none, List.append_eq, List.cons_append, List.nil_append]
 have x1 := rexp_c 37 s.s (by omega) (by omega)
 have x2 := rexp_c p (2305843009213693950 - s.e) (by omega) (by omega)
 have e1 : expI 37 s.s = powm 37 s.s.toNat := by
  have := expI_nat 37 37 s.s.toNat rfl (by decide)
  rwa [Int.toNat_of_nonneg rs.1] at this
 have e2 : expI p (2305843009213693950 - s.e) = powm p.toNat (2305843009213693950 - s.e).toNat := by
  have := expI_nat p p.toNat (2305843009213693950 - s.e).toNat (by omega) (by omega)
  rwa [Int.toNat_of_nonneg (by omega)] at this
 rw [e1] at x1
 rw [e2] at x2
 have l1 := powm_lt 37 s.s.toNat
 have l2 := powm_lt p.toNat (2305843009213693950 - s.e).toNat
 have hmul := rmul_c (powm 37 s.s.toNat : Nat) (powm p.toNat (2305843009213693950 - s.e).toNat : Nat) (by omega) (by omega)
 rw [mulI_nat l1 l2] at hmul
 change AC _ _ _ _ (.it .i64 ((commit p s : Nat) : Int)) _ at hmul
 generalize commit p s = c at *
 generalize powm 37 s.s.toNat = y1 at *
 generalize powm p.toNat (2305843009213693950 - s.e).toNat = y2 at *
 refine run ?_
 refine cp x1 ?_
 refine run ?_
 refine cp x2 ?_
 refine run ?_
 refine cp hmul ?_
 refine run ?_
 exact er0
theorem rranges_c (p : Int) (s : Sig) : AC Tryz.prog 212 [.it .i64 p, sigV s] [] (.bo (decide (1 ≤ p) && decide (p < 2305843009213693951) && decide (0 ≤ s.e) && decide (s.e < 2305843009213693950) && decide (0 ≤ s.s) && decide (s.s < 2305843009213693950))) [] := by
 refine AC.enter [] [] Tryz.func212 rfl (by decide) (by decide) (Nat.le_of_ble_eq_true rfl) (by kernel_rfl) ?_; simp only [eraseC, eraseO, List.map_cons, List.map_nil, List.map_toArray, List.getElem?_toArray, List.getElem?_cons_zero, List.getElem?_cons_succ, Option.bind_some, Option.bind_none, List.append_eq, List.cons_append, List.nil_append]
 by_cases h1 : 1 ≤ p
 rotate_left
 ·rw [decide_eq_false h1]
  refine run ?_
  exact er0
 by_cases h2 : p < 2305843009213693951
 rotate_left
 ·rw [decide_eq_true h1, decide_eq_false h2]
  refine run ?_
  exact er0
 by_cases h3 : 0 ≤ s.e
 rotate_left
 ·rw [decide_eq_true h1, decide_eq_true h2, decide_eq_false h3]
  refine run ?_
  exact er0
 by_cases h4 : s.e < 2305843009213693950
 rotate_left
 ·rw [decide_eq_true h1, decide_eq_true h2, decide_eq_true h3, decide_eq_false h4]
  refine run ?_
  exact er0
 by_cases h5 : 0 ≤ s.s
 rotate_left
 ·rw [decide_eq_true h1, decide_eq_true h2, decide_eq_true h3, decide_eq_true h4, decide_eq_false h5]
  refine run ?_
  exact er0
 rw [decide_eq_true h1, decide_eq_true h2, decide_eq_true h3, decide_eq_true h4, decide_eq_true h5]
 refine run ?_
 exact er0
theorem rverify_c (p : Int) (m : By) (s : Sig) (hm : m.length ≤ 100000000) : AC Tryz.prog 182 [.it .i64 p, .st m, sigV s] [] (.bo (verify p m s)) [] := by
 refine AC.enter [212, 213, 147] [] Tryz.func182 rfl (by decide) (by decide) (Nat.le_of_ble_eq_true rfl) (by kernel_rfl) ?_; simp only [eraseC, eraseO, List.map_cons, List.map_nil, List.map_toArray, List.getElem?_toArray, List.getElem?_cons_zero, List.getElem?_cons_succ, Option.bind_some, Option.bind_none, List.append_eq, List.cons_append, List.nil_append]
 have hc := rranges_c p s
 unfold verify inOrder
 by_cases h : 1 ≤ p ∧ p < 2305843009213693951 ∧ 0 ≤ s.e ∧ s.e < 2305843009213693950 ∧ 0 ≤ s.s ∧ s.s < 2305843009213693950
 ·obtain ⟨h1, h2, h3, h4, h5, h6⟩ := h
  rw [decide_eq_true h1, decide_eq_true h2, decide_eq_true h3, decide_eq_true h4, decide_eq_true h5, decide_eq_true h6] at hc ⊢
  have hco := rcommit_c p s h1 h2 ⟨h3, h4⟩ ⟨h5, h6⟩
  have hcl : commit p s < 2305843009213693951 := Nat.mod_lt _ (by decide)
  have hch := rchallenge_c (commit p s : Nat) p m hm (by omega) (by omega)
  generalize commit p s = c at *
  generalize challenge (c : Int) p m = h at *
  have hsym : ((h : Int) == s.e) = (s.e == (h : Int)) := by rw [Bool.eq_iff_iff]; simp only [beq_iff_eq]; exact eq_comm
  refine run ?_
  refine cp hc ?_
  refine run ?_
  refine cp hco ?_
  refine run ?_
  refine cp hch ?_
  refine runf @hsym ?_
  exact er0
 ·have e : (decide (1 ≤ p) && decide (p < 2305843009213693951) && decide (0 ≤ s.e) && decide (s.e < 2305843009213693950) && decide (0 ≤ s.s) && decide (s.s < 2305843009213693950)) = false := by
   rw [Bool.eq_false_iff]
   intro hh
   simp only [Bool.and_eq_true, decide_eq_true_eq] at hh
   omega
  have e2 : (decide (1 ≤ p) && decide (p < 2305843009213693951) && (decide (0 ≤ s.e) && decide (s.e < 2305843009213693950)) && (decide (0 ≤ s.s) && decide (s.s < 2305843009213693950)) && decide (s.e = (challenge (commit p s) p m : Nat))) = false := by
   rw [Bool.eq_false_iff]
   intro hh
   simp only [Bool.and_eq_true, decide_eq_true_eq] at hh
   omega
  rw [e] at hc
  rw [e2]
  refine run ?_
  refine cp hc ?_
  refine run ?_
  exact er0
end Go.Proofs.YthbpbkbjdfcnjaaGreatDoor.Pe
namespace Go.Proofs.YthbpbkbjdfcnjaaGreatDoor.Pe
open Go Go.RowKit Co Sg Ac It
set_option maxRecDepth 100000
set_option maxHeartbeats 4000000
end Go.Proofs.YthbpbkbjdfcnjaaGreatDoor.Pe
end
section
namespace Go.Proofs.YthbpbkbjdfcnjaaGreatDoor.Pe
open Go Go.RowKit
variable [Tab]
section
variable {P : Program} {N N0 : Nat} {w0 : World} {g0 : Gh} {pf rf : List FuncId}
end
section
variable {P : Program} {N N0 : Nat} {w0 : World} {g0 : Gh} {pf rf : List FuncId} {ord : List (Nat × List Nat)}
end
section
variable {P : Program}
end
end Go.Proofs.YthbpbkbjdfcnjaaGreatDoor.Pe
namespace Go.Proofs.YthbpbkbjdfcnjaaGreatDoor.Pe
open Go Go.RowKit
variable [Tab]
def keeps (Kp : List Nat) (S S' : Store) : Prop := ∀ k ∈ Kp, S'[k]? = S[k]?
inductive K4 where
 | rp | wr | al | ot
def kdO (lp wp : List Nat) (d : Option Nat) (op : Op) : K4 := match d with
 | some d => if lp.contains d then .rp else if wp.contains d then (match op with
   | .call c => (match c.callee with
    | .builtin _ => .al
    | _ => .wr)
   | _ => .wr) else match op with
  | .alloc _ => .al
  | _ => .ot
 | none => .ot
inductive K5 where
 | rp | wr | ap | ot
def kdA (lp wp : List Nat) (d : Option Nat) (op : Op) : K5 := match kdO lp wp d op with
 | .rp => .rp
 | .wr => .wr
 | .al => (match op with
  | .call _ => .ap
  | _ => .ot)
 | .ot => .ot
def XStep4 (P : Program) (Kp lp wp : List Nat) (cls : Op → Cls) (o : Oper) (e : Env) (S : Store) (v : AV) (S' : Store) : Prop :=
 match kdO lp wp o.dst o.op with
 | .rp => S' = S ∧ ∃ k ∈ Kp, ∀ S2 : Store, S2[k]? = S[k]? → Does P o e S2 v S2
 | .wr => S'.length = S.length ∧ keeps Kp S S' ∧ ∀ R, Does P o e (S ++ R) v (S' ++ R)
 | .al => (∃ z, S' = S ++ [z] ∧ ∀ S2 : Store, S2.length = S.length → Does P o e S2 v (S2 ++ [z])) ∧ keeps Kp S S'
 | .ot => XStep P (cls o.op) o e S v S' ∧ keeps Kp S S'
theorem XStep4.does {P : Program} {Kp lp wp : List Nat} {cls : Op → Cls} {o : Oper} {e : Env} {S S' : Store} {v : AV} (h : XStep4 P Kp lp wp cls o e S v S') : Does P o e S v S' := by
 unfold XStep4 at h
 split at h
 ·obtain ⟨rfl, k, _, h⟩ := h; exact h _ rfl
 ·have := h.2.2 []; simpa using this
 ·obtain ⟨⟨z, rfl, h⟩, _⟩ := h; exact h _ rfl
 ·exact h.1.does
theorem XStep4.keeps {P : Program} {Kp lp wp : List Nat} {cls : Op → Cls} {o : Oper} {e : Env} {S S' : Store} {v : AV} (h : XStep4 P Kp lp wp cls o e S v S') : keeps Kp S S' := by
 unfold XStep4 at h
 split at h
 ·obtain ⟨rfl, _⟩ := h; exact fun _ _ => rfl
 ·exact h.2.1
 ·exact h.2
 ·exact h.2
theorem XStep4.put {P : Program} {Kp lp wp : List Nat} {cls : Op → Cls} {o : Oper} {e : Env} {S S' : Store} {v : AV} {ops : Array Oper} {dst : Option Nat} {u : AV} (h : ∀ d, dst = some d → d ∉ o.looksAt ops) : XStep4 P Kp lp wp cls o (Pe.put e dst u) S v S' ↔ XStep4 P Kp lp wp cls o e S v S' := by
 unfold XStep4
 split
 ·exact and_congr Iff.rfl (exists_congr fun k => and_congr Iff.rfl (forall_congr' fun S2 => imp_congr Iff.rfl (Does.put h)))
 ·exact and_congr Iff.rfl (and_congr Iff.rfl (forall_congr' fun R => Does.put h))
 ·exact and_congr (exists_congr fun z => and_congr Iff.rfl (forall_congr' fun S2 => imp_congr Iff.rfl (Does.put h))) Iff.rfl
 ·exact and_congr (XStep.put h) Iff.rfl
section
variable {P : Program} {N N0 : Nat} {w0 : World} {g0 : Gh} {pf rf : List FuncId} {Kp lp wp : List Nat}
end
inductive CD where
 | of (c : CC) | seq (a b : CD) | cond (c : Operand) (t f : CD) | block (id : Nat) (b : CD) | loop (b : CD) | spec (Kp lp wp : List Nat) (l : List AO) | weak (c : CD)
def WkP (N0 : Nat) (e : Env) (S : Store) (K : Env → Store → Prop) : Prop := ∃ e' S', Weak N0 e S e' S' ∧ K e' S'
theorem wk1 {N0 : Nat} {e e' : Env} {S S' : Store} {K : Env → Store → Prop} (hw : Weak N0 e S e' S') (h : K e' S') : WkP N0 e S K := ⟨e', S', hw, h⟩
def plcOk (Kp : List Nat) (op : Op) (e : Env) : Bool := match op with
 | .load _ x => (match ev e x with
  | .ptr k _ => Kp.contains k
  | _ => false)
 | _ => false
def CallF (P : Program) (op : Op) (e : Env) (S : Store) (v : AV) (S' : Store) : Prop := S'.length = S.length ∧ match op with
 | .call c => (match c.callee with
  | .value (.func f) => ∀ R, AC P f ((c.args.toList.map (ev e)).map AV.wk) (S ++ R) v (S' ++ R)
  | _ => False)
 | _ => False
def AppF (P : Program) (op : Op) (e : Env) (S : Store) : Option (AV × SObj) := match op with
 | .call c => (match c.callee with
  | .builtin .append => (match c.args.toList, c.argTypes.toList with
   | [x, y], [t, u] => aAppW P t u S (ev e x) (ev e y)
   | _, _ => none)
  | _ => none)
 | _ => none
def ARg4 (P : Program) (pf rf : List FuncId) (Kp lp wp : List Nat) : List AO → Env → Store → (Env → Store → Prop) → Prop
 | [], e, S, K => K e S
 | o :: rest, e, S, K => o.gd = none ∧ match kdA lp wp o.dst o.op with
  | .rp => ARg P pf rf [⟨o.dst, o.op, none⟩] e S (fun e' S' => plcOk Kp o.op e = true ∧ ARg4 P pf rf Kp lp wp rest e' S' K)
  | .ap => ∃ v z, AppF P o.op e S = some (v, z) ∧ keeps Kp S (S ++ [z]) ∧ ARg4 P pf rf Kp lp wp rest (put e o.dst v) (S ++ [z]) K
  | .wr => ∃ v S', CallF P o.op e S v S' ∧ keeps Kp S S' ∧ ARg4 P pf rf Kp lp wp rest (put e o.dst v) S' K
  | _ => ARg P pf rf [⟨o.dst, o.op, none⟩] e S (fun e' S' => keeps Kp S S' ∧ ARg4 P pf rf Kp lp wp rest e' S' K)
section
variable {P : Program} {N N0 : Nat} {w0 : World} {g0 : Gh} {pf rf : List FuncId} {sp : List (Nat × (List Nat × List Nat × List Nat))} {ord : List (Nat × List Nat)}
end
section
variable {P : Program}
end
section
variable (P : Program) (pf rf : List FuncId) (N0 : Nat) (Q : AX → Env → Store → Prop) (e : Env) (S : Store) (K : Env → Store → Prop)
end
def sideK (P : Program) (pf rf : List FuncId) (K : Env → Store → Prop) (Kp lp wp : List Nat) (rest : List AO) (S : Store) (e' : Env) (S' : Store) : Prop := keeps Kp S S' ∧ ARg4 P pf rf Kp lp wp rest e' S' K
section
variable {P : Program} {pf rf : List FuncId} {e e' : Env} {S S' : Store} {K : Env → Store → Prop} {Kp lp wp : List Nat} {rest : List AO}
theorem a4 {d : Option Nat} {op : Op} (h : ARg P pf rf [⟨d, op, none⟩] e S (sideK P pf rf K Kp lp wp rest S)) (hk : kdA lp wp d op = .ot := by rfl) : ARg4 P pf rf Kp lp wp (⟨d, op, none⟩ :: rest) e S K := by
 refine ⟨rfl, ?_⟩
 show match kdA lp wp d op with
  | .rp => _
  | .ap => _
  | .wr => _
  | _ => _
 rw [hk]
 exact h
theorem p4 {d : Option Nat} {op : Op} {v : AV} {z : SObj} (h : AppF P op e S = some (v, z)) (h' : ARg4 P pf rf Kp lp wp rest (put e d v) (S ++ [z]) K) (hk : kdA lp wp d op = .ap := by rfl) (hk' : keeps Kp S (S ++ [z]) := by (intro k hk; simp only [List.mem_cons, List.not_mem_nil, or_false] at hk; first | (subst hk; rfl) | (rcases hk with rfl | rfl <;> rfl) | (rcases hk with rfl | rfl | rfl <;> rfl))) : ARg4 P pf rf Kp lp wp (⟨d, op, none⟩ :: rest) e S K := by
 refine ⟨rfl, ?_⟩
 show match kdA lp wp d op with
  | .rp => _
  | .ap => _
  | .wr => _
  | _ => _
 rw [hk]
 exact ⟨v, z, h, hk', h'⟩
theorem k4 (h : ARg4 P pf rf Kp lp wp rest e' S' K) (hk : keeps Kp S S' := by (intro k hk; simp only [List.mem_cons, List.not_mem_nil, or_false] at hk; first | (subst hk; rfl) | (rcases hk with rfl | rfl <;> rfl) | (rcases hk with rfl | rfl | rfl <;> rfl))) : sideK P pf rf K Kp lp wp rest S e' S' := ⟨hk, h⟩
theorem w4 {d : Option Nat} {c : Call} {f : FuncId} {args : List AV} {o o' : SObj} {v : AV} (l : Nat) (h : AC P f (.ptr 0 0 :: args) [o] v [o']) (h' : ARg4 P pf rf Kp lp wp rest (put e d v) (S.set l o') K) (hf : c.callee = .value (.func f) := by rfl) (hw : kdA lp wp d (.call c) = .wr := by rfl)
  (ho : o.ok 0 = true := by rfl) (ho' : o'.ok 0 = true := by rfl) (ha : args.all (AV.ok 0) = true := by rfl) (hv : v.ok 0 = true := by rfl) (hT : S[l]? = some o := by rfl) (hg : (c.args.toList.map (ev e)).map AV.wk = .ptr l 0 :: args := by rfl) (hk : keeps Kp S (S.set l o') := by (intro k hk; simp only [List.mem_cons, List.not_mem_nil, or_false] at hk; first | (subst hk; rfl) | (rcases hk with rfl | rfl <;> rfl) | (rcases hk with rfl | rfl | rfl <;> rfl))) :
  ARg4 P pf rf Kp lp wp (⟨d, .call c, none⟩ :: rest) e S K := by
 refine ⟨rfl, ?_⟩
 show match kdA lp wp d (.call c) with
  | .rp => _
  | .ap => _
  | .wr => ∃ v S', CallF P (.call c) e S v S' ∧ keeps Kp S S' ∧ ARg4 P pf rf Kp lp wp rest (put e d v) S' K
  | _ => _
 rw [hw]
 refine ⟨v, S.set l o', ⟨by simp, ?_⟩, hk, h'⟩
 simp only [hf]
 intro R
 rw [hg]
 have := h.here l (S ++ R) ho ho' ha hv (get_app hT R)
 rw [List.set_append_left _ _ (List.getElem?_eq_some_iff.1 hT).1] at this
 exact this
end
set_option maxRecDepth 100000
end Go.Proofs.YthbpbkbjdfcnjaaGreatDoor.Pe
namespace Go.Proofs.YthbpbkbjdfcnjaaGreatDoor.Pe
open Go Go.RowKit
variable [Tab]
theorem WF.still {w : World} {g : Gh} {S : Store} (h : WF w g S) {l n : Nat} {o : SObj} {arr : Array Value} {T : TypeId} {fr : Nat × Nat} (hS : S[l]? = some o) (hown : g.own l (g.pl l)) (hG : g.G (g.pl l) = 0) (hh : w.heap[g.pl l]? = some (.cells arr T fr)) :
  WF w { g with G := fun x => if x = g.pl l then n else g.G x } (S.set l .dead) ∧ Evo w g w { g with G := fun x => if x = g.pl l then n else g.G x } := by
 have hlS := (List.getElem?_eq_some_iff.1 hS).1
 have hln : l < g.nid := by rw [h.nid]; exact hlS
 let g' : Gh := { g with G := fun x => if x = g.pl l then n else g.G x }
 have hne : ∀ b, 0 < g.G b → b ≠ g.pl l := fun b h e => by rw [e, hG] at h; exact absurd h (Nat.lt_irrefl 0)
 have hle : Le w g w g' := ⟨fun _ _ _ _ h => h, fun b o v hb _ => by
  show o < (if b = g.pl l then n else g.G b)
  rw [if_neg (hne b (by omega))]; exact hb, Nat.le_refl _, fun _ _ => ⟨rfl, .inl ⟨rfl, rfl, rfl⟩⟩, fun b me c hg hm => ⟨by
  show 0 < (if b = g.pl l then n else g.G b)
  rw [if_neg (hne b hg)]; exact hg, hm⟩⟩
 refine ⟨⟨by rw [List.length_set]; exact h.nid, fun k o hk => ?_, h.disj, h.lt, h.tab.le hle⟩, ⟨hle, rfl, rfl, rfl, Nat.le_refl _, fun _ _ _ => rfl, fun _ _ hk hb _ => ⟨hk, hb⟩, fun b _ hno => if_neg (fun e => hno l hln (by rw [e]; exact hown))⟩⟩
 by_cases hkl : k = l
 ·subst hkl; rw [List.getElem?_set_self hlS] at hk; cases hk; trivial
 ·rw [List.getElem?_set_ne (Ne.symm hkl)] at hk
  have hkn : k < g.nid := by rw [h.nid]; exact (List.getElem?_eq_some_iff.1 hk).1
  refine (h.obj k o hk).keep hle rfl rfl rfl rfl rfl (fun b hb' => ?_) (fun _ _ => rfl)
  exact if_neg (fun e => hkl (h.disj k l b hkn hln hb' (by rw [e]; exact hown)))
end Go.Proofs.YthbpbkbjdfcnjaaGreatDoor.Pe
end
section
namespace Go.Proofs.YthbpbkbjdfcnjaaGreatDoor.Pe
open Go Go.RowKit Co Sg Ac It Sl
set_option maxRecDepth 100000
set_option maxHeartbeats 4000000
theorem shp_head {n us} (h : shp Tryz.prog 140737488351232 (n + 3) 38 us) : ∃ e : Head, us = (headV e).cells ∧ ((-9223372036854775808 ≤ e.server ∧ e.server ≤ 9223372036854775807) ∧ (-9223372036854775808 ≤ e.size ∧ e.size ≤ 9223372036854775807) ∧ (-9223372036854775808 ≤ e.time ∧ e.time ≤ 9223372036854775807) ∧ e.root.length ≤ 140737488351232 ∧ (-9223372036854775808 ≤ e.sig.e ∧ e.sig.e ≤ 9223372036854775807) ∧ (-9223372036854775808 ≤ e.sig.s ∧ e.sig.s ≤ 9223372036854775807)) := by
 have h := shp_struct Tryz.underlying38 h
 obtain ⟨a0, b0, rfl, h0, h⟩ := h
 obtain ⟨a1, b1, rfl, h1, h⟩ := h
 obtain ⟨a2, b2, rfl, h2, h⟩ := h
 obtain ⟨a3, b3, rfl, h3, h⟩ := h
 obtain ⟨a4, b4, rfl, h4, rfl⟩ := h
 obtain ⟨server, rfl, w0⟩ := shp_i64 Tryz.underlying3 h0
 obtain ⟨size, rfl, w1⟩ := shp_i64 Tryz.underlying3 h1
 obtain ⟨root, rfl, w2⟩ := shp_str Tryz.underlying9 h2
 obtain ⟨time, rfl, w3⟩ := shp_i64 Tryz.underlying3 h3
 obtain ⟨sg, rfl, w4, w5⟩ := shp_sigI h4
 exact ⟨⟨server, size, root, time, sg⟩, rfl, w0, w1, w3, w2, w4, w5⟩
end Go.Proofs.YthbpbkbjdfcnjaaGreatDoor.Pe
end
section
namespace Go.Proofs.YthbpbkbjdfcnjaaGreatDoor.Sl
open Go Co Sg Ac It
end Go.Proofs.YthbpbkbjdfcnjaaGreatDoor.Sl
namespace Go.Proofs.YthbpbkbjdfcnjaaGreatDoor.Pe
open Go Go.RowKit Co Sg Ac It Sl
set_option maxRecDepth 100000
set_option maxHeartbeats 4000000
theorem fright15_c (h : Head) : AC Tryz.prog 126 [headV h] [] (.bo (rightH h)) [] := by
 refine AC.enter [] [] Tryz.func126 rfl (by decide) (by decide) (Nat.le_of_ble_eq_true rfl) (by kernel_rfl) ?_; simp only [eraseC, eraseO, List.map_cons, List.map_nil, List.map_toArray, List.getElem?_toArray, List.getElem?_cons_zero, List.getElem?_cons_succ, Option.bind_some, Option.bind_none, List.append_eq, List.cons_append, List.nil_append]
 have hf : ¬ ((0 ≤ h.server ∧ h.server ≤ 19) ∧ (0 ≤ h.size ∧ h.size ≤ 1073741824) ∧ (0 ≤ h.time ∧ h.time ≤ 1099511627776) ∧ h.root.length = 32 ∧ (0 ≤ h.sig.e ∧ h.sig.e ≤ 2305843009213693949) ∧ (0 ≤ h.sig.s ∧ h.sig.s ≤ 2305843009213693949)) → rightH h = false := fun hn => Bool.eq_false_iff.2 fun r => hn (rightH_lin.1 r)
 by_cases h1 : 0 ≤ h.server
 rotate_left
 ·rw [hf (by omega)]
  refine run ?_
  exact er0
 by_cases h2 : h.server < 20
 rotate_left
 ·rw [hf (by omega)]
  refine run ?_
  exact er0
 by_cases h3 : 0 ≤ h.size
 rotate_left
 ·rw [hf (by omega)]
  refine run ?_
  exact er0
 by_cases h4 : h.size ≤ 1073741824
 rotate_left
 ·rw [hf (by omega)]
  refine run ?_
  exact er0
 by_cases h5 : 0 ≤ h.time
 rotate_left
 ·rw [hf (by omega)]
  refine run ?_
  exact er0
 by_cases h6 : h.time ≤ 1099511627776
 rotate_left
 ·rw [hf (by omega)]
  refine run ?_
  exact er0
 by_cases h7 : h.root.length = 32
 rotate_left
 ·have h7' : ¬ (h.root.length : Int) = 32 := by omega
  rw [hf (by omega)]
  refine runf @h7' ?_
  exact er0
 have h7' : (h.root.length : Int) = 32 := by omega
 by_cases h8 : 0 ≤ h.sig.e
 rotate_left
 ·rw [hf (by omega)]
  refine runf @h7' ?_
  exact er0
 by_cases h9 : h.sig.e ≤ 2305843009213693949
 rotate_left
 ·rw [hf (by omega)]
  refine runf @h7' ?_
  exact er0
 by_cases h10 : 0 ≤ h.sig.s
 rotate_left
 ·rw [hf (by omega)]
  refine runf @h7' ?_
  exact er0
 by_cases h11 : h.sig.s ≤ 2305843009213693949
 rotate_left
 ·rw [hf (by omega)]
  refine runf @h7' ?_
  exact er0
 rw [rightH_lin.2 (by omega)]
 refine runf @h7' ?_
 exact er0
theorem fcore15_c (h : Head) (hr : rightH h = true) : AC Tryz.prog 129 [headV h] [] (.st (coreH h)) [] := by
 refine AC.enter [78, 128] [] Tryz.func129 rfl (by decide) (by decide) (Nat.le_of_ble_eq_true rfl) (by kernel_rfl) ?_; simp only [eraseC, eraseO, List.map_cons, List.map_nil, List.map_toArray, List.getElem?_toArray, List.getElem?_cons_zero, List.getElem?_cons_succ, Option.bind_some, Option.bind_none, List.append_eq, List.cons_append, List.nil_append]
 have hh := rightH_lin.1 hr
 have n1 := numI_le h.server (by omega)
 have n2 := numI_le h.size (by omega)
 have n3 := numI_le h.time (by omega)
 have t1 := text_len (s := h.root) (by omega)
 have tw : (text wHead).length = 5 := rfl
 unfold coreH
 refine run ?_
 refine cp (ftext_c wHead (by simp)) ?_
 refine run ?_
 refine cp (fnum_c h.server (by omega)) ?_
 refine run ?_
 refine cp (fnum_c h.size (by omega)) ?_
 refine run ?_
 refine cp (ftext_c h.root (by omega)) ?_
 refine run ?_
 refine cp (fnum_c h.time (by omega)) ?_
 refine run ?_
 exact er0
theorem fdigests_c (l : List By) (hl : l.length ≤ 140737488355328) : AC Tryz.prog 127 [sls l] [] (.bo (l.all dig)) [] := by
 refine AC.enter2 [] [] Tryz.func127 rfl (by decide) (by decide) (Nat.le_of_ble_eq_true rfl) (by kernel_rfl) ?_; simp only [eraseC, eraseO, List.map_cons, List.map_nil, List.map_toArray, List.getElem?_toArray, List.getElem?_cons_zero, List.getElem?_cons_succ, Option.bind_some, Option.bind_none, List.append_eq, List.cons_append, List.nil_append]
 refine run ?_
 refine loop_mk (fun m e S => S = [] ∧ e 0 = sls l ∧ ∃ k : Nat, e 3 = .it .i64 (k : Int) ∧ k ≤ l.length ∧ (l.take k).all dig = true ∧ m = l.length - k) l.length
  ⟨rfl, (by first | rfl | (simp only [↓upd_apply, ↓put_some, ↓reduceIte, Nat.reduceEqDiff, ↓argEnv_zero, ↓argEnv_succ, *]; done)), 0, (by first | rfl | (simp only [↓upd_apply, ↓put_some, ↓reduceIte, Nat.reduceEqDiff, ↓argEnv_zero, ↓argEnv_succ, *]; done)), by omega, rfl, rfl⟩ ?_
 rintro m e S ⟨rfl, s0, k, s3, hk, hall, rfl⟩
 by_cases hlt : k < l.length
 ·have hg : l[k]? = some l[k] := List.getElem?_eq_getElem hlt
  have hstep : l.take (k + 1) = l.take k ++ [l[k]] := List.take_succ_eq_append_getElem hlt
  have hbad : dig l[k] = false → l.all dig = false := fun h => List.all_eq_false.2 ⟨l[k], List.getElem_mem hlt, by simp [h]⟩
  generalize l[k] = x at *
  by_cases hx : x.length = 32
  ·have hx' : ((x.length : Int) != 32) = false := bneF (by omega)
   have hd : dig x = true := decide_eq_true hx
   refine runf (an @s0 (an @s3 (an @hg @hx'))) ?_
   exact round_mk (l.length - (k + 1)) (by omega) ⟨rfl, (by first | rfl | (simp only [↓upd_apply, ↓put_some, ↓reduceIte, Nat.reduceEqDiff, ↓argEnv_zero, ↓argEnv_succ, *]; done)), k + 1, (by first | rfl | (simp only [↓upd_apply, ↓put_some, ↓reduceIte, Nat.reduceEqDiff, ↓argEnv_zero, ↓argEnv_succ, *]; done)), by omega, by rw [hstep, List.all_append, hall]; simp [hd], rfl⟩
  ·have hx' : ((x.length : Int) != 32) = true := bneT (by omega)
   rw [hbad (decide_eq_false hx)]
   refine runf (an @s0 (an @s3 (an @hg @hx'))) ?_
   exact er0
 ·obtain rfl : k = l.length := by omega
  rw [List.take_length] at hall
  rw [hall]
  have hx : ¬ ((l.length : Nat) : Int) < (l.length : Int) := by omega
  refine runf (an @s0 (an @s3 @hx)) ?_
  exact er0
theorem fformed17_c (e : Evidence) (hl : e.link.length ≤ 1000000) : AC Tryz.prog 77 [evV e] [] (.bo (formedE e)) [] := by
 refine AC.enter2 [126, 127] [] Tryz.func77 rfl (by decide) (by decide) (Nat.le_of_ble_eq_true rfl) (by kernel_rfl) ?_; simp only [eraseC, eraseO, List.map_cons, List.map_nil, List.map_toArray, List.getElem?_toArray, List.getElem?_cons_zero, List.getElem?_cons_succ, Option.bind_some, Option.bind_none, List.append_eq, List.cons_append, List.nil_append]
 have k1 := fright15_c e.old
 have k2 := fright15_c e.new
 have k3 := fdigests_c e.link (by omega)
 unfold formedE
 cases h1 : rightH e.old with
 | false =>
  rw [h1] at k1
  refine run ?_
  refine cp k1 ?_
  refine run ?_
  exact er0
 | true =>
 rw [h1] at k1
 cases h2 : rightH e.new with
 | false =>
  rw [h2] at k2
  refine run ?_
  refine cp k1 ?_
  refine run ?_
  refine cp k2 ?_
  refine run ?_
  exact er0
 | true =>
 rw [h2] at k2
 by_cases h3 : e.root.length = 32
 rotate_left
 ·have h3' : ((e.root.length : Int) != 32) = true := bneT (by omega)
  rw [decide_eq_false h3]
  refine run ?_
  refine cp k1 ?_
  refine run ?_
  refine cp k2 ?_
  refine runf @h3' ?_
  exact er0
 have h3' : ((e.root.length : Int) != 32) = false := bneF (by omega)
 by_cases h4 : e.link.length ≤ 64
 rotate_left
 ·have h4' : (64 : Int) < (e.link.length : Int) := by omega
  rw [decide_eq_true h3, decide_eq_false h4]
  refine run ?_
  refine cp k1 ?_
  refine run ?_
  refine cp k2 ?_
  refine runf (an @h3' @h4') ?_
  exact er0
 have h4' : ¬ (64 : Int) < (e.link.length : Int) := by omega
 rw [decide_eq_true h3, decide_eq_true h4]
 refine run ?_
 refine cp k1 ?_
 refine run ?_
 refine cp k2 ?_
 refine runf (an @h3' @h4') ?_
 refine cp k3 ?_
 refine run ?_
 exact er0
end Go.Proofs.YthbpbkbjdfcnjaaGreatDoor.Pe
namespace Go.Proofs.YthbpbkbjdfcnjaaGreatDoor.Pe
open Go Go.RowKit Co Sg Ac It Sl
set_option maxRecDepth 100000
set_option maxHeartbeats 4000000
end Go.Proofs.YthbpbkbjdfcnjaaGreatDoor.Pe
end
section
namespace Go.Proofs.YthbpbkbjdfcnjaaGreatDoor.Pe
open Go Go.RowKit Co Sg Ac It Sl
set_option maxRecDepth 100000
set_option maxHeartbeats 4000000
theorem rroot15_c (l : List It.Entry) (hl : l.length ≤ 1000000) (hz : ∀ e ∈ l, Iz e.item) : AC Tryz.prog 48 [entriesV l] [] (.st (rootE l)) [] := by
 refine AC.enter2 [39, 91] [] Tryz.func48 rfl (by decide) (by decide) (Nat.le_of_ble_eq_true rfl) (by kernel_rfl) ?_; simp only [eraseC, eraseO, List.map_cons, List.map_nil, List.map_toArray, List.getElem?_toArray, List.getElem?_cons_zero, List.getElem?_cons_succ, Option.bind_some, Option.bind_none, List.append_eq, List.cons_append, List.nil_append]
 have k1 := rleaves15_c l hl hz
 have k2 := rroot_c l.length (l.map leafE) (by simp) (by simp; omega) (fun x hx => by rw [leaves_dig l x hx]; omega)
 refine run ?_
 refine cp k1 ?_
 refine run ?_
 refine cp k2 ?_
 refine run ?_
 exact er0
end Go.Proofs.YthbpbkbjdfcnjaaGreatDoor.Pe
end
section
namespace Go.Proofs.YthbpbkbjdfcnjaaGreatDoor.Pe
open Go Sm Mk
set_option maxRecDepth 100000
theorem rootsR_len : ∀ (p : List By) (m n : Nat) (x : By) (w : Bool), x.length ≤ 1000000 → (∀ y ∈ p, y.length ≤ 1000000) → (rootsR p m n x w).1.length ≤ 1000000 ∧ (rootsR p m n x w).2.1.length ≤ 1000000 ∧ (rootsR p m n x w).2.2.1.length ≤ 2 * p.length
 | [], m, n, x, w, h, ha => by simp only [rootsR]; split <;> simp [h]
 | q :: r, m, n, x, w, h, ha => by
  have hq := ha q (by simp)
  have hr : ∀ y ∈ r, y.length ≤ 1000000 := fun y hy => ha y (by simp [hy])
  simp only [rootsR]; split
  ·exact ⟨h, h, by simp⟩
  ·split
   ·exact ⟨hq, hq, by simp⟩
   ·split
    ·split
     ·have := rootsR_len r m (sp n) x w h hr
      refine ⟨this.1, by rw [node_len]; omega, ?_⟩
      simp only [List.length_append, List.length_cons, List.length_nil]; omega
     ·simp
    ·split
     ·have := rootsR_len r (m - sp n) (n - sp n) x false h hr
      refine ⟨by rw [node_len]; omega, by rw [node_len]; omega, ?_⟩
      simp only [List.length_append, List.length_cons, List.length_nil]; omega
     ·simp
set_option maxHeartbeats 3200000 in
theorem rroots_c (p : List By) : ∀ (m n : Nat) (x : By) (w : Bool), 0 < m → m ≤ n → n ≤ 9223372036854775807 → p.length ≤ 1000000 → x.length ≤ 1000000 → (∀ y ∈ p, y.length ≤ 1000000) →
  AC Tryz.prog 38 [.it .i64 m, .it .i64 n, .st x, sls p.reverse, .bo w] [] (.tup [.st (rootsR p m n x w).1, .st (rootsR p m n x w).2.1, .sl (.own 0) ((rootsR p m n x w).2.2.1.map .st), .bo (rootsR p m n x w).2.2.2]) [.buf (rootsR p m n x w).2.2.1.length 9 1] := by
 induction p with
 | nil =>
  intro m n x w h0 hi hn hp hx hall
  refine AC.enter [87, 88, 89] [] Tryz.func38 rfl (by decide) (by decide) (Nat.le_of_ble_eq_true rfl) (by kernel_rfl) ?_; simp only [eraseC, eraseO, List.map_cons, List.map_nil, List.map_toArray, List.getElem?_toArray, List.getElem?_cons_zero, List.getElem?_cons_succ, Option.bind_some, Option.bind_none, List.append_eq, List.cons_append, List.nil_append]
  have : List.reverse ([] : List By) = [] := rfl
  rw [this]
  by_cases h1 : m = n
  ·subst h1
   cases w
   ·simp only [rootsR, Bool.false_eq_true, and_false, if_false]
    (try simp only [AWs_eq, ARgs_eq, AOps_eq, iteP_true, iteP_false]); (try simp -implicitDefEqProofs (disch := (first | omega | (simp only [List.length_append, List.length_cons, List.length_map, List.length_nil, List.length_take, List.length_drop]; omega))) only [↓zpre, zpost, cst1, ↓reduceIte, Nat.reduceEqDiff, Nat.reduceAdd, Nat.reduceLT, Nat.reduceLeDiff, Nat.reduceMul, Nat.reduceSub, Int.reduceToNat, Int.reduceAdd, Int.reduceSub, Int.reduceMul, Int.reduceNeg, Int.reduceLE, Int.reduceLT, Int.reduceEq, Int.reduceBEq, Int.reduceBNe, Nat.reduceBEq, Nat.reduceBNe, aBin, aEq, aEqF, aNilEq, aInt, aStr, aUn, aConv, aNil, aFldAddr, aFld, aIdxAddr, aIdx, aBui, aLoad, aStore, aLits, aLit, aMake, aMakeW, aMapSet, aLook, kfind, keq, kok, lookOut, aMk, aRange, aNext, aBytes, aApp, srcOf, aSlice, aBound, modeCut, apart, aFill, aval, aGd, ACall, AV.wk, AV.wk2, AV.wk1, AV.cells, AV.solid, AV.ro, AV.ro1, ← List.map_take, ← List.map_drop, reduceCtorEq, Option.isNone_some, Option.isSome_none, tf0, tf1, tf2, tf3, tf4, tf5, tf6, tf7, tf8, tf9, tf10, tf11, tf12, tf13, tf14, tf15, tf16, tf17, tf18, tf19, tf20, tf21, tf22, tf23, tf24, tf25, tf26, tf27, tf28])
    refine ends_retW _ _ (Weak.reserve _ 12 (es := []) (by rfl) 9 1) [0] (by rfl) (subOk_one 0 (by rfl) (by rfl)) (by rfl) (by rfl) (by rfl)
   ·simp only [rootsR, and_self, if_true]
    (try simp only [AWs_eq, ARgs_eq, AOps_eq, iteP_true, iteP_false]); (try simp -implicitDefEqProofs (disch := (first | omega | (simp only [List.length_append, List.length_cons, List.length_map, List.length_nil, List.length_take, List.length_drop]; omega))) only [↓zpre, zpost, cst1, ↓reduceIte, Nat.reduceEqDiff, Nat.reduceAdd, Nat.reduceLT, Nat.reduceLeDiff, Nat.reduceMul, Nat.reduceSub, Int.reduceToNat, Int.reduceAdd, Int.reduceSub, Int.reduceMul, Int.reduceNeg, Int.reduceLE, Int.reduceLT, Int.reduceEq, Int.reduceBEq, Int.reduceBNe, Nat.reduceBEq, Nat.reduceBNe, aBin, aEq, aEqF, aNilEq, aInt, aStr, aUn, aConv, aNil, aFldAddr, aFld, aIdxAddr, aIdx, aBui, aLoad, aStore, aLits, aLit, aMake, aMakeW, aMapSet, aLook, kfind, keq, kok, lookOut, aMk, aRange, aNext, aBytes, aApp, srcOf, aSlice, aBound, modeCut, apart, aFill, aval, aGd, ACall, AV.wk, AV.wk2, AV.wk1, AV.cells, AV.solid, AV.ro, AV.ro1, ← List.map_take, ← List.map_drop, reduceCtorEq, Option.isNone_some, Option.isSome_none, tf0, tf1, tf2, tf3, tf4, tf5, tf6, tf7, tf8, tf9, tf10, tf11, tf12, tf13, tf14, tf15, tf16, tf17, tf18, tf19, tf20, tf21, tf22, tf23, tf24, tf25, tf26, tf27, tf28])
    refine ends_retW _ _ (Weak.reserve _ 12 (es := []) (by rfl) 9 1) [0] (by rfl) (subOk_one 0 (by rfl) (by rfl)) (by rfl) (by rfl) (by rfl)
  ·simp only [rootsR, h1, false_and, if_false]
   (try simp only [AWs_eq, ARgs_eq, AOps_eq, iteP_true, iteP_false]); (try simp -implicitDefEqProofs (disch := (first | omega | (simp only [List.length_append, List.length_cons, List.length_map, List.length_nil, List.length_take, List.length_drop]; omega))) only [↓zpre, zpost, cst1, ↓reduceIte, Nat.reduceEqDiff, Nat.reduceAdd, Nat.reduceLT, Nat.reduceLeDiff, Nat.reduceMul, Nat.reduceSub, Int.reduceToNat, Int.reduceAdd, Int.reduceSub, Int.reduceMul, Int.reduceNeg, Int.reduceLE, Int.reduceLT, Int.reduceEq, Int.reduceBEq, Int.reduceBNe, Nat.reduceBEq, Nat.reduceBNe, aBin, aEq, aEqF, aNilEq, aInt, aStr, aUn, aConv, aNil, aFldAddr, aFld, aIdxAddr, aIdx, aBui, aLoad, aStore, aLits, aLit, aMake, aMakeW, aMapSet, aLook, kfind, keq, kok, lookOut, aMk, aRange, aNext, aBytes, aApp, srcOf, aSlice, aBound, modeCut, apart, aFill, aval, aGd, ACall, AV.wk, AV.wk2, AV.wk1, AV.cells, AV.solid, AV.ro, AV.ro1, ← List.map_take, ← List.map_drop, reduceCtorEq, Option.isNone_some, Option.isSome_none, tf0, tf1, tf2, tf3, tf4, tf5, tf6, tf7, tf8, tf9, tf10, tf11, tf12, tf13, tf14, tf15, tf16, tf17, tf18, tf19, tf20, tf21, tf22, tf23, tf24, tf25, tf26, tf27, tf28])
   refine ends_retW _ _ (Weak.reserve _ 12 (es := []) (by rfl) 9 1) [0] (by rfl) (subOk_one 0 (by rfl) (by rfl)) (by rfl) (by rfl) (by rfl)
 | cons q r ih =>
  intro m n x w h0 hi hn hp hx hall
  refine AC.enter [87, 88, 89] [] Tryz.func38 rfl (by decide) (by decide) (Nat.le_of_ble_eq_true rfl) (by kernel_rfl) ?_; simp only [eraseC, eraseO, List.map_cons, List.map_nil, List.map_toArray, List.getElem?_toArray, List.getElem?_cons_zero, List.getElem?_cons_succ, Option.bind_some, Option.bind_none, List.append_eq, List.cons_append, List.nil_append]
  have hrev : List.reverse (q :: r) = r.reverse ++ [q] := by simp
  rw [hrev]
  have hp' : r.length + 1 ≤ 1000000 := hp
  have hl := rev_last r q
  have el : ((r.length + 1 : Nat) : Int) - 1 = (r.length : Int) := by omega
  have ht := rev_take r q
  have hall' : ∀ y ∈ r, y.length ≤ 1000000 := fun y hy => hall y (by simp [hy])
  have hq := hall q (by simp)
  by_cases h1 : m = n
  ·subst h1
   cases w
   ·simp only [rootsR, Bool.false_eq_true, and_false, if_false, if_true]
    (try simp only [AWs_eq, ARgs_eq, AOps_eq, iteP_true, iteP_false]); (try simp -implicitDefEqProofs (disch := (first | omega | (simp only [List.length_append, List.length_cons, List.length_map, List.length_nil, List.length_take, List.length_drop]; omega))) only [↓zpre, zpost, cst1, ↓reduceIte, Nat.reduceEqDiff, Nat.reduceAdd, Nat.reduceLT, Nat.reduceLeDiff, Nat.reduceMul, Nat.reduceSub, Int.reduceToNat, Int.reduceAdd, Int.reduceSub, Int.reduceMul, Int.reduceNeg, Int.reduceLE, Int.reduceLT, Int.reduceEq, Int.reduceBEq, Int.reduceBNe, Nat.reduceBEq, Nat.reduceBNe, aBin, aEq, aEqF, aNilEq, aInt, aStr, aUn, aConv, aNil, aFldAddr, aFld, aIdxAddr, aIdx, aBui, aLoad, aStore, aLits, aLit, aMake, aMakeW, aMapSet, aLook, kfind, keq, kok, lookOut, aMk, aRange, aNext, aBytes, aApp, srcOf, aSlice, aBound, modeCut, apart, aFill, aval, aGd, ACall, AV.wk, AV.wk2, AV.wk1, AV.cells, AV.solid, AV.ro, AV.ro1, ← List.map_take, ← List.map_drop, reduceCtorEq, Option.isNone_some, Option.isSome_none, tf0, tf1, tf2, tf3, tf4, tf5, tf6, tf7, tf8, tf9, tf10, tf11, tf12, tf13, tf14, tf15, tf16, tf17, tf18, tf19, tf20, tf21, tf22, tf23, tf24, tf25, tf26, tf27, tf28, List.length_reverse, el, hl, ht])
    by_cases hr : r = []
    ·subst hr
     (try simp only [AWs_eq, ARgs_eq, AOps_eq, iteP_true, iteP_false]); (try simp -implicitDefEqProofs (disch := (first | omega | (simp only [List.length_append, List.length_cons, List.length_map, List.length_nil, List.length_take, List.length_drop]; omega))) only [↓zpre, zpost, cst1, ↓reduceIte, Nat.reduceEqDiff, Nat.reduceAdd, Nat.reduceLT, Nat.reduceLeDiff, Nat.reduceMul, Nat.reduceSub, Int.reduceToNat, Int.reduceAdd, Int.reduceSub, Int.reduceMul, Int.reduceNeg, Int.reduceLE, Int.reduceLT, Int.reduceEq, Int.reduceBEq, Int.reduceBNe, Nat.reduceBEq, Nat.reduceBNe, aBin, aEq, aEqF, aNilEq, aInt, aStr, aUn, aConv, aNil, aFldAddr, aFld, aIdxAddr, aIdx, aBui, aLoad, aStore, aLits, aLit, aMake, aMakeW, aMapSet, aLook, kfind, keq, kok, lookOut, aMk, aRange, aNext, aBytes, aApp, srcOf, aSlice, aBound, modeCut, apart, aFill, aval, aGd, ACall, AV.wk, AV.wk2, AV.wk1, AV.cells, AV.solid, AV.ro, AV.ro1, ← List.map_take, ← List.map_drop, reduceCtorEq, Option.isNone_some, Option.isSome_none, tf0, tf1, tf2, tf3, tf4, tf5, tf6, tf7, tf8, tf9, tf10, tf11, tf12, tf13, tf14, tf15, tf16, tf17, tf18, tf19, tf20, tf21, tf22, tf23, tf24, tf25, tf26, tf27, tf28])
     refine ends_retW _ _ (Weak.reserve _ 12 (es := []) (by rfl) 9 1) [0] (by rfl) (subOk_one 0 (by rfl) (by rfl)) (by rfl) (by rfl) (by rfl)
    ·have hr0 : r.length ≠ 0 := fun e => hr (List.eq_nil_of_length_eq_zero e)
     have hr' : ((r.length : Int) + 1 == 1) = false := by
      have : r.length ≠ 0 := fun e => hr (List.eq_nil_of_length_eq_zero e)
      rw [beqF]; omega
     rw [decide_eq_false hr]
     (try simp only [AWs_eq, ARgs_eq, AOps_eq, iteP_true, iteP_false]); (try simp -implicitDefEqProofs (disch := (first | omega | (simp only [List.length_append, List.length_cons, List.length_map, List.length_nil, List.length_take, List.length_drop]; omega))) only [↓zpre, zpost, cst1, ↓reduceIte, Nat.reduceEqDiff, Nat.reduceAdd, Nat.reduceLT, Nat.reduceLeDiff, Nat.reduceMul, Nat.reduceSub, Int.reduceToNat, Int.reduceAdd, Int.reduceSub, Int.reduceMul, Int.reduceNeg, Int.reduceLE, Int.reduceLT, Int.reduceEq, Int.reduceBEq, Int.reduceBNe, Nat.reduceBEq, Nat.reduceBNe, aBin, aEq, aEqF, aNilEq, aInt, aStr, aUn, aConv, aNil, aFldAddr, aFld, aIdxAddr, aIdx, aBui, aLoad, aStore, aLits, aLit, aMake, aMakeW, aMapSet, aLook, kfind, keq, kok, lookOut, aMk, aRange, aNext, aBytes, aApp, srcOf, aSlice, aBound, modeCut, apart, aFill, aval, aGd, ACall, AV.wk, AV.wk2, AV.wk1, AV.cells, AV.solid, AV.ro, AV.ro1, ← List.map_take, ← List.map_drop, reduceCtorEq, Option.isNone_some, Option.isSome_none, tf0, tf1, tf2, tf3, tf4, tf5, tf6, tf7, tf8, tf9, tf10, tf11, tf12, tf13, tf14, tf15, tf16, tf17, tf18, tf19, tf20, tf21, tf22, tf23, tf24, tf25, tf26, tf27, tf28, hr'])
     refine ends_retW _ _ (Weak.reserve _ 12 (es := []) (by rfl) 9 1) [0] (by rfl) (subOk_one 0 (by rfl) (by rfl)) (by rfl) (by rfl) (by first | (simp [resV, AV.ren, AV.r2, AV.r1, AV.r0, Mode.ren, idx, ↓upd_apply, ↓put_some]; done) | (simp [resV, AV.ren, AV.r2, AV.r1, AV.r0, Mode.ren, idx, ↓upd_apply, ↓put_some]; omega) | (simp [resV, AV.ren, AV.r2, AV.r1, AV.r0, Mode.ren, idx, ↓upd_apply, ↓put_some]; exact hr))
   ·simp only [rootsR, and_self, if_true]
    (try simp only [AWs_eq, ARgs_eq, AOps_eq, iteP_true, iteP_false]); (try simp -implicitDefEqProofs (disch := (first | omega | (simp only [List.length_append, List.length_cons, List.length_map, List.length_nil, List.length_take, List.length_drop]; omega))) only [↓zpre, zpost, cst1, ↓reduceIte, Nat.reduceEqDiff, Nat.reduceAdd, Nat.reduceLT, Nat.reduceLeDiff, Nat.reduceMul, Nat.reduceSub, Int.reduceToNat, Int.reduceAdd, Int.reduceSub, Int.reduceMul, Int.reduceNeg, Int.reduceLE, Int.reduceLT, Int.reduceEq, Int.reduceBEq, Int.reduceBNe, Nat.reduceBEq, Nat.reduceBNe, aBin, aEq, aEqF, aNilEq, aInt, aStr, aUn, aConv, aNil, aFldAddr, aFld, aIdxAddr, aIdx, aBui, aLoad, aStore, aLits, aLit, aMake, aMakeW, aMapSet, aLook, kfind, keq, kok, lookOut, aMk, aRange, aNext, aBytes, aApp, srcOf, aSlice, aBound, modeCut, apart, aFill, aval, aGd, ACall, AV.wk, AV.wk2, AV.wk1, AV.cells, AV.solid, AV.ro, AV.ro1, ← List.map_take, ← List.map_drop, reduceCtorEq, Option.isNone_some, Option.isSome_none, tf0, tf1, tf2, tf3, tf4, tf5, tf6, tf7, tf8, tf9, tf10, tf11, tf12, tf13, tf14, tf15, tf16, tf17, tf18, tf19, tf20, tf21, tf22, tf23, tf24, tf25, tf26, tf27, tf28, List.length_reverse, el, hl, ht])
    refine ends_retW _ _ (Weak.reserve _ 12 (es := []) (by rfl) 9 1) [0] (by rfl) (subOk_one 0 (by rfl) (by rfl)) (by rfl) (by rfl) (by rfl)
  ·(try simp only [AWs_eq, ARgs_eq, AOps_eq, iteP_true, iteP_false]); (try simp -implicitDefEqProofs (disch := (first | omega | (simp only [List.length_append, List.length_cons, List.length_map, List.length_nil, List.length_take, List.length_drop]; omega))) only [↓zpre, zpost, cst1, ↓reduceIte, Nat.reduceEqDiff, Nat.reduceAdd, Nat.reduceLT, Nat.reduceLeDiff, Nat.reduceMul, Nat.reduceSub, Int.reduceToNat, Int.reduceAdd, Int.reduceSub, Int.reduceMul, Int.reduceNeg, Int.reduceLE, Int.reduceLT, Int.reduceEq, Int.reduceBEq, Int.reduceBNe, Nat.reduceBEq, Nat.reduceBNe, aBin, aEq, aEqF, aNilEq, aInt, aStr, aUn, aConv, aNil, aFldAddr, aFld, aIdxAddr, aIdx, aBui, aLoad, aStore, aLits, aLit, aMake, aMakeW, aMapSet, aLook, kfind, keq, kok, lookOut, aMk, aRange, aNext, aBytes, aApp, srcOf, aSlice, aBound, modeCut, apart, aFill, aval, aGd, ACall, AV.wk, AV.wk2, AV.wk1, AV.cells, AV.solid, AV.ro, AV.ro1, ← List.map_take, ← List.map_drop, reduceCtorEq, Option.isNone_some, Option.isSome_none, tf0, tf1, tf2, tf3, tf4, tf5, tf6, tf7, tf8, tf9, tf10, tf11, tf12, tf13, tf14, tf15, tf16, tf17, tf18, tf19, tf20, tf21, tf22, tf23, tf24, tf25, tf26, tf27, tf28, List.length_reverse, el, hl, ht])
   refine call_pure (rsplit_c n (by omega) (by omega)) (by rfl) (by rfl) (by rfl) ?_
   have h3 := sp_lt (n := n) (by omega)
   have h4 := sp_pos n
   simp only [rootsR, h1, false_and, if_false]
   by_cases hs : m ≤ sp n
   ·rw [if_pos hs]
    have hc := rootsR_len r m (sp n) x w hx hall'
    have hi' := ih m (sp n) x w h0 hs (by omega) (by omega) hx hall'
    generalize rootsR r m (sp n) x w = C at *
    obtain ⟨a, b, L, ok⟩ := C
    simp only at hc hi' ⊢
    (try simp only [AWs_eq, ARgs_eq, AOps_eq, iteP_true, iteP_false]); (try simp -implicitDefEqProofs (disch := (first | omega | (simp only [List.length_append, List.length_cons, List.length_map, List.length_nil, List.length_take, List.length_drop]; omega))) only [↓zpre, zpost, cst1, ↓reduceIte, Nat.reduceEqDiff, Nat.reduceAdd, Nat.reduceLT, Nat.reduceLeDiff, Nat.reduceMul, Nat.reduceSub, Int.reduceToNat, Int.reduceAdd, Int.reduceSub, Int.reduceMul, Int.reduceNeg, Int.reduceLE, Int.reduceLT, Int.reduceEq, Int.reduceBEq, Int.reduceBNe, Nat.reduceBEq, Nat.reduceBNe, aBin, aEq, aEqF, aNilEq, aInt, aStr, aUn, aConv, aNil, aFldAddr, aFld, aIdxAddr, aIdx, aBui, aLoad, aStore, aLits, aLit, aMake, aMakeW, aMapSet, aLook, kfind, keq, kok, lookOut, aMk, aRange, aNext, aBytes, aApp, srcOf, aSlice, aBound, modeCut, apart, aFill, aval, aGd, ACall, AV.wk, AV.wk2, AV.wk1, AV.cells, AV.solid, AV.ro, AV.ro1, ← List.map_take, ← List.map_drop, reduceCtorEq, Option.isNone_some, Option.isSome_none, tf0, tf1, tf2, tf3, tf4, tf5, tf6, tf7, tf8, tf9, tf10, tf11, tf12, tf13, tf14, tf15, tf16, tf17, tf18, tf19, tf20, tf21, tf22, tf23, tf24, tf25, tf26, tf27, tf28, List.length_reverse, el, hl, ht])
    refine call_mk hi' ?_
    cases ok
    ·simp only [Bool.false_eq_true, if_false]
     (try simp only [AWs_eq, ARgs_eq, AOps_eq, iteP_true, iteP_false]); (try simp -implicitDefEqProofs (disch := (first | omega | (simp only [List.length_append, List.length_cons, List.length_map, List.length_nil, List.length_take, List.length_drop]; omega))) only [↓zpre, zpost, cst1, ↓reduceIte, Nat.reduceEqDiff, Nat.reduceAdd, Nat.reduceLT, Nat.reduceLeDiff, Nat.reduceMul, Nat.reduceSub, Int.reduceToNat, Int.reduceAdd, Int.reduceSub, Int.reduceMul, Int.reduceNeg, Int.reduceLE, Int.reduceLT, Int.reduceEq, Int.reduceBEq, Int.reduceBNe, Nat.reduceBEq, Nat.reduceBNe, aBin, aEq, aEqF, aNilEq, aInt, aStr, aUn, aConv, aNil, aFldAddr, aFld, aIdxAddr, aIdx, aBui, aLoad, aStore, aLits, aLit, aMake, aMakeW, aMapSet, aLook, kfind, keq, kok, lookOut, aMk, aRange, aNext, aBytes, aApp, srcOf, aSlice, aBound, modeCut, apart, aFill, aval, aGd, ACall, AV.wk, AV.wk2, AV.wk1, AV.cells, AV.solid, AV.ro, AV.ro1, ← List.map_take, ← List.map_drop, reduceCtorEq, Option.isNone_some, Option.isSome_none, tf0, tf1, tf2, tf3, tf4, tf5, tf6, tf7, tf8, tf9, tf10, tf11, tf12, tf13, tf14, tf15, tf16, tf17, tf18, tf19, tf20, tf21, tf22, tf23, tf24, tf25, tf26, tf27, tf28, List.length_reverse, el, hl, ht])
     refine ends_retW _ _ (Weak.reserve _ 12 (es := []) (by rfl) 9 1) [1] (by rfl) (subOk_one 1 (by rfl) (by rfl)) (by rfl) (by rfl) (by rfl)
    ·rw [if_pos rfl]
     (try simp only [AWs_eq, ARgs_eq, AOps_eq, iteP_true, iteP_false]); (try simp -implicitDefEqProofs (disch := (first | omega | (simp only [List.length_append, List.length_cons, List.length_map, List.length_nil, List.length_take, List.length_drop]; omega))) only [↓zpre, zpost, cst1, ↓reduceIte, Nat.reduceEqDiff, Nat.reduceAdd, Nat.reduceLT, Nat.reduceLeDiff, Nat.reduceMul, Nat.reduceSub, Int.reduceToNat, Int.reduceAdd, Int.reduceSub, Int.reduceMul, Int.reduceNeg, Int.reduceLE, Int.reduceLT, Int.reduceEq, Int.reduceBEq, Int.reduceBNe, Nat.reduceBEq, Nat.reduceBNe, aBin, aEq, aEqF, aNilEq, aInt, aStr, aUn, aConv, aNil, aFldAddr, aFld, aIdxAddr, aIdx, aBui, aLoad, aStore, aLits, aLit, aMake, aMakeW, aMapSet, aLook, kfind, keq, kok, lookOut, aMk, aRange, aNext, aBytes, aApp, srcOf, aSlice, aBound, modeCut, apart, aFill, aval, aGd, ACall, AV.wk, AV.wk2, AV.wk1, AV.cells, AV.solid, AV.ro, AV.ro1, ← List.map_take, ← List.map_drop, reduceCtorEq, Option.isNone_some, Option.isSome_none, tf0, tf1, tf2, tf3, tf4, tf5, tf6, tf7, tf8, tf9, tf10, tf11, tf12, tf13, tf14, tf15, tf16, tf17, tf18, tf19, tf20, tf21, tf22, tf23, tf24, tf25, tf26, tf27, tf28, List.length_reverse, el, hl, ht])
     refine call_pure (rnode_c b q hc.2.1 hq) (by rfl) (by rfl) (by rfl) ?_
     (try simp only [AWs_eq, ARgs_eq, AOps_eq, iteP_true, iteP_false]); (try simp -implicitDefEqProofs (disch := (first | omega | (simp only [List.length_append, List.length_cons, List.length_map, List.length_nil, List.length_take, List.length_drop]; omega))) only [↓zpre, zpost, cst1, ↓reduceIte, Nat.reduceEqDiff, Nat.reduceAdd, Nat.reduceLT, Nat.reduceLeDiff, Nat.reduceMul, Nat.reduceSub, Int.reduceToNat, Int.reduceAdd, Int.reduceSub, Int.reduceMul, Int.reduceNeg, Int.reduceLE, Int.reduceLT, Int.reduceEq, Int.reduceBEq, Int.reduceBNe, Nat.reduceBEq, Nat.reduceBNe, aBin, aEq, aEqF, aNilEq, aInt, aStr, aUn, aConv, aNil, aFldAddr, aFld, aIdxAddr, aIdx, aBui, aLoad, aStore, aLits, aLit, aMake, aMakeW, aMapSet, aLook, kfind, keq, kok, lookOut, aMk, aRange, aNext, aBytes, aApp, srcOf, aSlice, aBound, modeCut, apart, aFill, aval, aGd, ACall, AV.wk, AV.wk2, AV.wk1, AV.cells, AV.solid, AV.ro, AV.ro1, ← List.map_take, ← List.map_drop, reduceCtorEq, Option.isNone_some, Option.isSome_none, tf0, tf1, tf2, tf3, tf4, tf5, tf6, tf7, tf8, tf9, tf10, tf11, tf12, tf13, tf14, tf15, tf16, tf17, tf18, tf19, tf20, tf21, tf22, tf23, tf24, tf25, tf26, tf27, tf28, List.length_reverse, el, hl, ht])
     refine call_pure (rpre_c b q hc.2.1 hq) (by rfl) (by rfl) (by rfl) ?_
     (try simp only [AWs_eq, ARgs_eq, AOps_eq, iteP_true, iteP_false]); (try simp -implicitDefEqProofs (disch := (first | omega | (simp only [List.length_append, List.length_cons, List.length_map, List.length_nil, List.length_take, List.length_drop]; omega))) only [↓zpre, zpost, cst1, ↓reduceIte, Nat.reduceEqDiff, Nat.reduceAdd, Nat.reduceLT, Nat.reduceLeDiff, Nat.reduceMul, Nat.reduceSub, Int.reduceToNat, Int.reduceAdd, Int.reduceSub, Int.reduceMul, Int.reduceNeg, Int.reduceLE, Int.reduceLT, Int.reduceEq, Int.reduceBEq, Int.reduceBNe, Nat.reduceBEq, Nat.reduceBNe, aBin, aEq, aEqF, aNilEq, aInt, aStr, aUn, aConv, aNil, aFldAddr, aFld, aIdxAddr, aIdx, aBui, aLoad, aStore, aLits, aLit, aMake, aMakeW, aMapSet, aLook, kfind, keq, kok, lookOut, aMk, aRange, aNext, aBytes, aApp, srcOf, aSlice, aBound, modeCut, apart, aFill, aval, aGd, ACall, AV.wk, AV.wk2, AV.wk1, AV.cells, AV.solid, AV.ro, AV.ro1, ← List.map_take, ← List.map_drop, reduceCtorEq, Option.isNone_some, Option.isSome_none, tf0, tf1, tf2, tf3, tf4, tf5, tf6, tf7, tf8, tf9, tf10, tf11, tf12, tf13, tf14, tf15, tf16, tf17, tf18, tf19, tf20, tf21, tf22, tf23, tf24, tf25, tf26, tf27, tf28, List.length_reverse, el, hl, ht])
     exact ends_ret (κ := [0]) (by rfl) (subOk_one 0 (by rfl) (by simp [SObj.ren])) (by rfl) (by rfl) (by simp [resV, AV.ren, AV.r2, AV.r1, AV.r0, Mode.ren, idx, ↓upd_apply])
   ·rw [if_neg hs]
    have hc := rootsR_len r (m - sp n) (n - sp n) x false hx hall'
    have hi' := ih (m - sp n) (n - sp n) x false (by omega) (by omega) (by omega) (by omega) hx hall'
    generalize rootsR r (m - sp n) (n - sp n) x false = C at *
    obtain ⟨a, b, L, ok⟩ := C
    simp only at hc hi' ⊢
    have e1 : (m : Int) - (sp n : Int) = ((m - sp n : Nat) : Int) := by omega
    have e2 : (n : Int) - (sp n : Int) = ((n - sp n : Nat) : Int) := by omega
    (try simp only [AWs_eq, ARgs_eq, AOps_eq, iteP_true, iteP_false]); (try simp -implicitDefEqProofs (disch := (first | omega | (simp only [List.length_append, List.length_cons, List.length_map, List.length_nil, List.length_take, List.length_drop]; omega))) only [↓zpre, zpost, cst1, ↓reduceIte, Nat.reduceEqDiff, Nat.reduceAdd, Nat.reduceLT, Nat.reduceLeDiff, Nat.reduceMul, Nat.reduceSub, Int.reduceToNat, Int.reduceAdd, Int.reduceSub, Int.reduceMul, Int.reduceNeg, Int.reduceLE, Int.reduceLT, Int.reduceEq, Int.reduceBEq, Int.reduceBNe, Nat.reduceBEq, Nat.reduceBNe, aBin, aEq, aEqF, aNilEq, aInt, aStr, aUn, aConv, aNil, aFldAddr, aFld, aIdxAddr, aIdx, aBui, aLoad, aStore, aLits, aLit, aMake, aMakeW, aMapSet, aLook, kfind, keq, kok, lookOut, aMk, aRange, aNext, aBytes, aApp, srcOf, aSlice, aBound, modeCut, apart, aFill, aval, aGd, ACall, AV.wk, AV.wk2, AV.wk1, AV.cells, AV.solid, AV.ro, AV.ro1, ← List.map_take, ← List.map_drop, reduceCtorEq, Option.isNone_some, Option.isSome_none, tf0, tf1, tf2, tf3, tf4, tf5, tf6, tf7, tf8, tf9, tf10, tf11, tf12, tf13, tf14, tf15, tf16, tf17, tf18, tf19, tf20, tf21, tf22, tf23, tf24, tf25, tf26, tf27, tf28, List.length_reverse, el, hl, ht, e1, e2])
    refine call_mk hi' ?_
    cases ok
    ·simp only [Bool.false_eq_true, if_false]
     (try simp only [AWs_eq, ARgs_eq, AOps_eq, iteP_true, iteP_false]); (try simp -implicitDefEqProofs (disch := (first | omega | (simp only [List.length_append, List.length_cons, List.length_map, List.length_nil, List.length_take, List.length_drop]; omega))) only [↓zpre, zpost, cst1, ↓reduceIte, Nat.reduceEqDiff, Nat.reduceAdd, Nat.reduceLT, Nat.reduceLeDiff, Nat.reduceMul, Nat.reduceSub, Int.reduceToNat, Int.reduceAdd, Int.reduceSub, Int.reduceMul, Int.reduceNeg, Int.reduceLE, Int.reduceLT, Int.reduceEq, Int.reduceBEq, Int.reduceBNe, Nat.reduceBEq, Nat.reduceBNe, aBin, aEq, aEqF, aNilEq, aInt, aStr, aUn, aConv, aNil, aFldAddr, aFld, aIdxAddr, aIdx, aBui, aLoad, aStore, aLits, aLit, aMake, aMakeW, aMapSet, aLook, kfind, keq, kok, lookOut, aMk, aRange, aNext, aBytes, aApp, srcOf, aSlice, aBound, modeCut, apart, aFill, aval, aGd, ACall, AV.wk, AV.wk2, AV.wk1, AV.cells, AV.solid, AV.ro, AV.ro1, ← List.map_take, ← List.map_drop, reduceCtorEq, Option.isNone_some, Option.isSome_none, tf0, tf1, tf2, tf3, tf4, tf5, tf6, tf7, tf8, tf9, tf10, tf11, tf12, tf13, tf14, tf15, tf16, tf17, tf18, tf19, tf20, tf21, tf22, tf23, tf24, tf25, tf26, tf27, tf28, List.length_reverse, el, hl, ht])
     refine ends_retW _ _ (Weak.reserve _ 12 (es := []) (by rfl) 9 1) [1] (by rfl) (subOk_one 1 (by rfl) (by rfl)) (by rfl) (by rfl) (by rfl)
    ·rw [if_pos rfl]
     (try simp only [AWs_eq, ARgs_eq, AOps_eq, iteP_true, iteP_false]); (try simp -implicitDefEqProofs (disch := (first | omega | (simp only [List.length_append, List.length_cons, List.length_map, List.length_nil, List.length_take, List.length_drop]; omega))) only [↓zpre, zpost, cst1, ↓reduceIte, Nat.reduceEqDiff, Nat.reduceAdd, Nat.reduceLT, Nat.reduceLeDiff, Nat.reduceMul, Nat.reduceSub, Int.reduceToNat, Int.reduceAdd, Int.reduceSub, Int.reduceMul, Int.reduceNeg, Int.reduceLE, Int.reduceLT, Int.reduceEq, Int.reduceBEq, Int.reduceBNe, Nat.reduceBEq, Nat.reduceBNe, aBin, aEq, aEqF, aNilEq, aInt, aStr, aUn, aConv, aNil, aFldAddr, aFld, aIdxAddr, aIdx, aBui, aLoad, aStore, aLits, aLit, aMake, aMakeW, aMapSet, aLook, kfind, keq, kok, lookOut, aMk, aRange, aNext, aBytes, aApp, srcOf, aSlice, aBound, modeCut, apart, aFill, aval, aGd, ACall, AV.wk, AV.wk2, AV.wk1, AV.cells, AV.solid, AV.ro, AV.ro1, ← List.map_take, ← List.map_drop, reduceCtorEq, Option.isNone_some, Option.isSome_none, tf0, tf1, tf2, tf3, tf4, tf5, tf6, tf7, tf8, tf9, tf10, tf11, tf12, tf13, tf14, tf15, tf16, tf17, tf18, tf19, tf20, tf21, tf22, tf23, tf24, tf25, tf26, tf27, tf28, List.length_reverse, el, hl, ht])
     refine call_pure (rnode_c q a hq hc.1) (by rfl) (by rfl) (by rfl) ?_
     (try simp only [AWs_eq, ARgs_eq, AOps_eq, iteP_true, iteP_false]); (try simp -implicitDefEqProofs (disch := (first | omega | (simp only [List.length_append, List.length_cons, List.length_map, List.length_nil, List.length_take, List.length_drop]; omega))) only [↓zpre, zpost, cst1, ↓reduceIte, Nat.reduceEqDiff, Nat.reduceAdd, Nat.reduceLT, Nat.reduceLeDiff, Nat.reduceMul, Nat.reduceSub, Int.reduceToNat, Int.reduceAdd, Int.reduceSub, Int.reduceMul, Int.reduceNeg, Int.reduceLE, Int.reduceLT, Int.reduceEq, Int.reduceBEq, Int.reduceBNe, Nat.reduceBEq, Nat.reduceBNe, aBin, aEq, aEqF, aNilEq, aInt, aStr, aUn, aConv, aNil, aFldAddr, aFld, aIdxAddr, aIdx, aBui, aLoad, aStore, aLits, aLit, aMake, aMakeW, aMapSet, aLook, kfind, keq, kok, lookOut, aMk, aRange, aNext, aBytes, aApp, srcOf, aSlice, aBound, modeCut, apart, aFill, aval, aGd, ACall, AV.wk, AV.wk2, AV.wk1, AV.cells, AV.solid, AV.ro, AV.ro1, ← List.map_take, ← List.map_drop, reduceCtorEq, Option.isNone_some, Option.isSome_none, tf0, tf1, tf2, tf3, tf4, tf5, tf6, tf7, tf8, tf9, tf10, tf11, tf12, tf13, tf14, tf15, tf16, tf17, tf18, tf19, tf20, tf21, tf22, tf23, tf24, tf25, tf26, tf27, tf28, List.length_reverse, el, hl, ht])
     refine call_pure (rnode_c q b hq hc.2.1) (by rfl) (by rfl) (by rfl) ?_
     (try simp only [AWs_eq, ARgs_eq, AOps_eq, iteP_true, iteP_false]); (try simp -implicitDefEqProofs (disch := (first | omega | (simp only [List.length_append, List.length_cons, List.length_map, List.length_nil, List.length_take, List.length_drop]; omega))) only [↓zpre, zpost, cst1, ↓reduceIte, Nat.reduceEqDiff, Nat.reduceAdd, Nat.reduceLT, Nat.reduceLeDiff, Nat.reduceMul, Nat.reduceSub, Int.reduceToNat, Int.reduceAdd, Int.reduceSub, Int.reduceMul, Int.reduceNeg, Int.reduceLE, Int.reduceLT, Int.reduceEq, Int.reduceBEq, Int.reduceBNe, Nat.reduceBEq, Nat.reduceBNe, aBin, aEq, aEqF, aNilEq, aInt, aStr, aUn, aConv, aNil, aFldAddr, aFld, aIdxAddr, aIdx, aBui, aLoad, aStore, aLits, aLit, aMake, aMakeW, aMapSet, aLook, kfind, keq, kok, lookOut, aMk, aRange, aNext, aBytes, aApp, srcOf, aSlice, aBound, modeCut, apart, aFill, aval, aGd, ACall, AV.wk, AV.wk2, AV.wk1, AV.cells, AV.solid, AV.ro, AV.ro1, ← List.map_take, ← List.map_drop, reduceCtorEq, Option.isNone_some, Option.isSome_none, tf0, tf1, tf2, tf3, tf4, tf5, tf6, tf7, tf8, tf9, tf10, tf11, tf12, tf13, tf14, tf15, tf16, tf17, tf18, tf19, tf20, tf21, tf22, tf23, tf24, tf25, tf26, tf27, tf28, List.length_reverse, el, hl, ht])
     refine call_pure (rpre_c q a hq hc.1) (by rfl) (by rfl) (by rfl) ?_
     (try simp only [AWs_eq, ARgs_eq, AOps_eq, iteP_true, iteP_false]); (try simp -implicitDefEqProofs (disch := (first | omega | (simp only [List.length_append, List.length_cons, List.length_map, List.length_nil, List.length_take, List.length_drop]; omega))) only [↓zpre, zpost, cst1, ↓reduceIte, Nat.reduceEqDiff, Nat.reduceAdd, Nat.reduceLT, Nat.reduceLeDiff, Nat.reduceMul, Nat.reduceSub, Int.reduceToNat, Int.reduceAdd, Int.reduceSub, Int.reduceMul, Int.reduceNeg, Int.reduceLE, Int.reduceLT, Int.reduceEq, Int.reduceBEq, Int.reduceBNe, Nat.reduceBEq, Nat.reduceBNe, aBin, aEq, aEqF, aNilEq, aInt, aStr, aUn, aConv, aNil, aFldAddr, aFld, aIdxAddr, aIdx, aBui, aLoad, aStore, aLits, aLit, aMake, aMakeW, aMapSet, aLook, kfind, keq, kok, lookOut, aMk, aRange, aNext, aBytes, aApp, srcOf, aSlice, aBound, modeCut, apart, aFill, aval, aGd, ACall, AV.wk, AV.wk2, AV.wk1, AV.cells, AV.solid, AV.ro, AV.ro1, ← List.map_take, ← List.map_drop, reduceCtorEq, Option.isNone_some, Option.isSome_none, tf0, tf1, tf2, tf3, tf4, tf5, tf6, tf7, tf8, tf9, tf10, tf11, tf12, tf13, tf14, tf15, tf16, tf17, tf18, tf19, tf20, tf21, tf22, tf23, tf24, tf25, tf26, tf27, tf28, List.length_reverse, el, hl, ht])
     refine call_pure (rpre_c q b hq hc.2.1) (by rfl) (by rfl) (by rfl) ?_
     (try simp only [AWs_eq, ARgs_eq, AOps_eq, iteP_true, iteP_false]); (try simp -implicitDefEqProofs (disch := (first | omega | (simp only [List.length_append, List.length_cons, List.length_map, List.length_nil, List.length_take, List.length_drop]; omega))) only [↓zpre, zpost, cst1, ↓reduceIte, Nat.reduceEqDiff, Nat.reduceAdd, Nat.reduceLT, Nat.reduceLeDiff, Nat.reduceMul, Nat.reduceSub, Int.reduceToNat, Int.reduceAdd, Int.reduceSub, Int.reduceMul, Int.reduceNeg, Int.reduceLE, Int.reduceLT, Int.reduceEq, Int.reduceBEq, Int.reduceBNe, Nat.reduceBEq, Nat.reduceBNe, aBin, aEq, aEqF, aNilEq, aInt, aStr, aUn, aConv, aNil, aFldAddr, aFld, aIdxAddr, aIdx, aBui, aLoad, aStore, aLits, aLit, aMake, aMakeW, aMapSet, aLook, kfind, keq, kok, lookOut, aMk, aRange, aNext, aBytes, aApp, srcOf, aSlice, aBound, modeCut, apart, aFill, aval, aGd, ACall, AV.wk, AV.wk2, AV.wk1, AV.cells, AV.solid, AV.ro, AV.ro1, ← List.map_take, ← List.map_drop, reduceCtorEq, Option.isNone_some, Option.isSome_none, tf0, tf1, tf2, tf3, tf4, tf5, tf6, tf7, tf8, tf9, tf10, tf11, tf12, tf13, tf14, tf15, tf16, tf17, tf18, tf19, tf20, tf21, tf22, tf23, tf24, tf25, tf26, tf27, tf28, List.length_reverse, el, hl, ht])
     exact ends_ret (κ := [0]) (by rfl) (subOk_one 0 (by rfl) (by simp [SObj.ren])) (by rfl) (by rfl) (by simp [resV, AV.ren, AV.r2, AV.r1, AV.r0, Mode.ren, idx, ↓upd_apply])
end Go.Proofs.YthbpbkbjdfcnjaaGreatDoor.Pe
end
section
namespace Go.Proofs.YthbpbkbjdfcnjaaGreatDoor.Pe
open Go Go.RowKit Co Sg Ac It Sl
set_option maxRecDepth 100000
set_option maxHeartbeats 4000000
theorem rootsR_flag : ∀ (p : List By) (m n : Nat) (x : By) (w : Bool), (Mk.rootsR p m n x w).2.2.2 = (Mk.roots p m n x w).2.2
 | [], m, n, x, w => by
  simp only [Mk.roots, Mk.rootsR]
  split <;> rfl
 | q :: r, m, n, x, w => by
  have i1 := rootsR_flag r m (Mk.sp n) x w
  have i2 := rootsR_flag r (m - Mk.sp n) (n - Mk.sp n) x false
  simp only [Mk.roots, Mk.rootsR]
  by_cases hn : m = n
  ·cases w
   ·rw [if_neg (fun h => by cases h.2), if_pos hn, if_pos hn, if_neg (by decide)]
    by_cases hr : r = []
    ·rw [if_pos hr]; exact decide_eq_true hr
    ·rw [if_neg hr]; exact decide_eq_false hr
   ·rw [if_pos ⟨hn, rfl⟩, if_pos hn, if_pos rfl]
  ·rw [if_neg (fun h => hn h.1), if_neg hn, if_neg hn]
   by_cases hs : m ≤ Mk.sp n
   ·rw [if_pos hs, if_pos hs]
    cases hf : (Mk.rootsR r m (Mk.sp n) x w).2.2.2
    ·rw [if_neg (by decide)]; rw [hf] at i1; exact i1
    ·rw [if_pos rfl]; rw [hf] at i1; exact i1
   ·rw [if_neg hs, if_neg hs]
    cases hf : (Mk.rootsR r (m - Mk.sp n) (n - Mk.sp n) x false).2.2.2
    ·rw [if_neg (by decide)]; rw [hf] at i2; exact i2
    ·rw [if_pos rfl]; rw [hf] at i2; exact i2
theorem digs_of {p : List By} (h : ∀ y ∈ p, y.length = 32) : digs p = true := by
 unfold digs
 rw [List.all_eq_true]
 intro y hy
 have := h y hy
 simp [this]
theorem extB_R {m n : Nat} {old now : By} {p : List By} (h0 : 0 < m) (hmn : m ≤ n) (ho : old.length = 32) (hw : now.length = 32) (hd : digs p = true) :
  extB m n old now p = (((Mk.rootsR p.reverse m n old true).2.2.2 && (Mk.rootsR p.reverse m n old true).1 == old) && (Mk.rootsR p.reverse m n old true).2.1 == now) := by
 unfold extB
 rw [if_neg (by rw [hd]; simp; omega), if_neg (fun h => by have := h.1; omega)]
 by_cases e : m = n
 ·subst e
  cases hr : p.reverse with
  | nil =>
   have hp : p.length = 0 := by rw [← List.length_reverse, hr]; rfl
   have hR : Mk.rootsR [] m m old true = (old, old, [], true) := by simp [Mk.rootsR]
   rw [hR]
   by_cases hx : now = old
   ·rw [if_pos ⟨rfl, hx, hp⟩, hx]; simp
   ·rw [if_neg (fun h => hx h.2.1), if_pos (.inr rfl)]
    have : (old == now) = false := by simpa using fun h => hx h.symm
    simp [this]
  | cons q r =>
   have hp : p.length ≠ 0 := by rw [← List.length_reverse, hr]; simp
   have hR : (Mk.rootsR (q :: r) m m old true).2.2.2 = false := by simp [Mk.rootsR]
   rw [hR, if_neg (fun h => hp h.2.2), if_pos (.inr rfl)]
   rfl
 ·rw [if_neg (fun h => e (by have := h.1; omega)), if_neg (by omega), rootsR_flag]
  cases hf : (Mk.roots p.reverse m n old true).2.2 with
  | false => simp only [Int.toNat_natCast, hf]; rfl
  | true =>
   obtain ⟨q1, q2, q3⟩ := Mk.rootsR_roots _ _ _ _ _ hf
   simp only [Int.toNat_natCast, hf, q2, q3]
theorem rext_c (p : List By) (m n : Int) (old now : By) (hm : 0 ≤ m) (hn : n ≤ 1073741824) (ho : old.length = 32) (hw : now.length = 32) (hd : ∀ y ∈ p, y.length = 32) (hp : p.length ≤ 1000000) (h0 : m = 0 → old = Mk.root []) :
  AC Tryz.prog 143 [.it .i64 m, .it .i64 n, .st old, .st now, sls p] [] (.bo (extB m n old now p)) [] := by
 refine AC.enter2 [127, 91] [] Tryz.func143 rfl (by decide) (by decide) (Nat.le_of_ble_eq_true rfl) (by kernel_rfl) ?_; simp only [eraseC, eraseO, List.map_cons, List.map_nil, List.map_toArray, List.getElem?_toArray, List.getElem?_cons_zero, List.getElem?_cons_succ, Option.bind_some, Option.bind_none, List.append_eq, List.cons_append, List.nil_append]
 have hdd := digs_of hd
 have kd := fdigests_c p (by omega)
 rw [show p.all dig = true from List.all_eq_true.2 fun y hy => decide_eq_true (hd y hy)] at kd
 have c1 : ¬ m < 0 := by omega
 have c2 : ((old.length : Int) != 32) = false := bneF (by omega)
 have c3 : ((now.length : Int) != 32) = false := bneF (by omega)
 by_cases c4 : n < m
 ·rw [show extB m n old now p = false from if_pos (.inr (.inl c4))]
  refine runf (an @c1 @c4) ?_
  exact er0
 by_cases z : m = 0
 ·have hold : old = Mk.root [] := h0 z
  have z1 : extB m n old now p = decide (p.length = 0) := by
   unfold extB
   rw [if_neg (by rw [hdd]; simp; omega)]
   have hs : old = Sm.sha [] := hold
   by_cases hl : p.length = 0
   ·rw [if_pos ⟨z, hs, hl⟩, decide_eq_true hl]
   ·rw [if_neg (fun h => hl h.2.2), if_neg (fun h => hl h.2.2), if_pos (.inl z), decide_eq_false hl]
  have kr := rroot_c 0 [] (Nat.le_refl _) (by simp) (by simp)
  rw [z1]
  rw [← hold] at kr
  have z0 : (m == 0) = true := by rw [z]; rfl
  have z2 : (old == old) = true := beq_self_eq_true _
  clear h0 hold z1
  by_cases hl : p.length = 0
  ·have hl' : ((p.length : Int) == 0) = true := by rw [hl]; rfl
   rw [decide_eq_true hl]
   refine runf (an @c1 (an @c2 (an @c3 @c4))) ?_
   refine cp kd ?_
   refine runf @z0 ?_
   refine cp kr ?_
   refine runf (an @z2 @hl') ?_
   exact er0
  ·have hl' : ((p.length : Int) == 0) = false := beqF (by omega)
   rw [decide_eq_false hl]
   refine runf (an @c1 (an @c2 (an @c3 @c4))) ?_
   refine cp kd ?_
   refine runf @z0 ?_
   refine cp kr ?_
   refine runf (an @z2 @hl') ?_
   exact er0
 obtain ⟨m, rfl⟩ := Int.eq_ofNat_of_zero_le hm
 obtain ⟨n, rfl⟩ := Int.eq_ofNat_of_zero_le (show 0 ≤ n by omega)
 have z' : ((m : Int) == 0) = false := beqF z
 have hcl := rroots_c p.reverse m n old true (by omega) (by omega) (by omega) (by simp; omega) (by omega) (fun y hy => by rw [hd y (by simpa using hy)]; omega)
 rw [List.reverse_reverse] at hcl
 rw [extB_R (by omega) (by omega) ho hw hdd]
 generalize Mk.rootsR p.reverse m n old true = C at *
 obtain ⟨r1, r2, r3, r4⟩ := C
 simp only at hcl
 refine runf (an @c1 (an @c2 (an @c3 @c4))) ?_
 refine cp kd ?_
 refine runf @z' ?_
 refine call_mk hcl ?_
 cases r4 with
 | false =>
  refine run ?_
  exact er0
 | true =>
 cases hq : (r1 == old) with
 | false =>
  refine runf @hq ?_
  exact er0
 | true =>
  cases hs : (r2 == now) with
  | false =>
   refine runf (an @hq @hs) ?_
   exact er0
  | true =>
   refine runf (an @hq @hs) ?_
   exact er0
theorem fverify15_c (p : Int) (h : Head) : AC Tryz.prog 142 [.it .i64 p, headV h] [] (.bo (verifyH p h)) [] := by
 refine AC.enter2 [126, 129, 182] [] Tryz.func142 rfl (by decide) (by decide) (Nat.le_of_ble_eq_true rfl) (by kernel_rfl) ?_; simp only [eraseC, eraseO, List.map_cons, List.map_nil, List.map_toArray, List.getElem?_toArray, List.getElem?_cons_zero, List.getElem?_cons_succ, Option.bind_some, Option.bind_none, List.append_eq, List.cons_append, List.nil_append]
 have k1 := fright15_c h
 unfold verifyH
 cases hr : rightH h with
 | false =>
  rw [hr] at k1
  refine run ?_
  refine cp k1 ?_
  refine run ?_
  exact er0
 | true =>
  rw [hr] at k1
  have k2 := fcore15_c h hr
  have k3 := rverify_c p (coreH h) h.sig (by have := coreR_lenH hr; omega)
  refine run ?_
  refine cp k1 ?_
  refine run ?_
  refine cp k2 ?_
  refine run ?_
  refine cp k3 ?_
  refine run ?_
  exact er0
theorem fmake17_c (l : List It.Entry) (now old : Head) (hl : EOk l) : AC Tryz.prog 93 [entriesV l, headV now, headV old] [] (.tup [evV (mkEv l now old).1, .bo (mkEv l now old).2]) [] := by
 refine AC.enter2 [48, 39, 141] [] Tryz.func93 rfl (by decide) (by decide) (Nat.le_of_ble_eq_true rfl) (by kernel_rfl) ?_; simp only [eraseC, eraseO, List.map_cons, List.map_nil, List.map_toArray, List.getElem?_toArray, List.getElem?_cons_zero, List.getElem?_cons_succ, Option.bind_some, Option.bind_none, List.append_eq, List.cons_append, List.nil_append]
 have hll := hl.len
 have hsz := entries_sz l
 unfold mkEv
 by_cases c1 : now.server = old.server
 rotate_left
 ·have q1 : (now.server != old.server) = true := bneT c1
  rw [if_pos (.inl c1)]
  refine runf @q1 ?_
  exact er0w
 have q1 : (now.server != old.server) = false := bneF c1
 by_cases c2 : old.size < 0
 ·rw [if_pos (.inr (.inl c2))]
  refine runf (an @q1 @c2) ?_
  exact er0w
 by_cases c3 : now.size < old.size
 ·rw [if_pos (.inr (.inr (.inl c3)))]
  refine runf (an @q1 (an @c2 @c3)) ?_
  exact er0w
 by_cases c4 : (l.length : Int) < now.size
 ·rw [if_pos (.inr (.inr (.inr c4)))]
  refine runf (an @q1 (an @c2 (an @c3 @c4))) ?_
  exact er0w
 rw [if_neg (by rintro (h | h | h | h); exact h c1; exact c2 h; exact c3 h; exact c4 h)]
 have hn0 : 0 ≤ now.size := by omega
 have ho0 : 0 ≤ old.size := by omega
 have hnl : now.size.toNat ≤ l.length := by omega
 have hol : old.size.toNat ≤ l.length := by omega
 have kr1 := rroot15_c (l.take old.size.toNat) (hl.take _).len (hl.take _).iz
 have kr2 := rroot15_c (l.take now.size.toNat) (hl.take _).len (hl.take _).iz
 have kv := rleaves15_c (l.take now.size.toNat) (hl.take _).len (hl.take _).iz
 have kl := rlink_c ((l.take now.size.toNat).map leafE) old.size.toNat (by rw [List.length_map, List.length_take]; omega) (by rw [List.length_map, List.length_take]; omega) (fun x hx => by rw [leaves_dig _ x hx]; omega)
 have e4 : ((old.size.toNat : Nat) : Int) = old.size := by omega
 rw [e4] at kl
 have e3 : linkE ((l.take now.size.toNat).map leafE) old.size.toNat = if old.size.toNat = 0 then [] else Mk.link ((l.take now.size.toNat).map leafE) old.size.toNat true := rfl
 rw [e3]
 generalize (if old.size.toNat = 0 then [] else Mk.link ((l.take now.size.toNat).map leafE) old.size.toNat true) = lk at *
 generalize (l.take now.size.toNat).map leafE = L at *
 generalize rootE (l.take old.size.toNat) = ro at *
 generalize rootE (l.take now.size.toNat) = rn at *
 refine runf (an @q1 (an @c2 (an @c3 (an @c4 (an @hsz (an @ho0 (an @hol (an @hn0 @hnl)))))))) ?_
 refine cp kr1 ?_
 refine runf (an @hsz (an @ho0 (an @hol (an @hn0 @hnl)))) ?_
 refine cp kr2 ?_
 by_cases d1 : rn = now.root
 rotate_left
 ·have p1 := nilI _ _ d1
  rw [if_pos (.inl d1)]
  refine runf @p1 ?_
  exact er0w
 have p1 : (rn == now.root) = true := by rw [d1]; exact beq_self_eq_true _
 by_cases d2 : ro = old.root
 ·have p2 : (ro == old.root) = true := by rw [d2]; exact beq_self_eq_true _
  rw [if_pos (.inr d2)]
  refine runf (an @p1 @p2) ?_
  exact er0w
 have p2 := nilI _ _ d2
 rw [if_neg (by rintro (h | h); exact h d1; exact d2 h)]
 refine runf (an @p1 (an @p2 (an @hsz (an @hn0 @hnl)))) ?_
 refine cp kv ?_
 refine run ?_
 refine cp kl ?_
 refine run ?_
 exact er0w
theorem fcheck17_c (ps : List Int) (e : Evidence) (hp : InL ps) (hl : e.link.length ≤ 1000000) (h0 : e.old.size = 0 → e.root = Mk.root []) : AC Tryz.prog 94 [intsV ps, evV e] [] (.bo (checkE ps e)) [] := by
 refine AC.enter2 [77, 142, 143] [] Tryz.func94 rfl (by decide) (by decide) (Nat.le_of_ble_eq_true rfl) (by kernel_rfl) ?_; simp only [eraseC, eraseO, List.map_cons, List.map_nil, List.map_toArray, List.getElem?_toArray, List.getElem?_cons_zero, List.getElem?_cons_succ, Option.bind_some, Option.bind_none, List.append_eq, List.cons_append, List.nil_append]
 have hpl := hp.len
 have kf := fformed17_c e (by omega)
 have hszp : allSz 1 (ps.map (AV.it .i64)) = true := allSz_map 1 _ (fun _ => rfl) _
 unfold checkE
 cases hf : formedE e with
 | false =>
  rw [hf] at kf
  refine run ?_
  refine cp kf ?_
  refine run ?_
  exact er0
 | true =>
 rw [hf] at kf
 obtain ⟨h1, h2, h3, h4, h5⟩ := formedE_iff.1 hf
 have r1 := rightH_lin.1 h1
 have r2 := rightH_lin.1 h2
 by_cases c1 : e.old.server = e.new.server
 rotate_left
 ·have q1 : (e.old.server != e.new.server) = true := bneT c1
  rw [decide_eq_false c1]
  refine run ?_
  refine cp kf ?_
  refine runf @q1 ?_
  exact er0
 have q1 : (e.old.server != e.new.server) = false := bneF c1
 have c0 : 0 ≤ e.old.server := by omega
 have c0' : ¬ e.old.server < 0 := by omega
 by_cases c2 : e.old.server < (ps.length : Int)
 rotate_left
 ·have c2' : (ps.length : Int) ≤ e.old.server := by omega
  rw [decide_eq_true c1, decide_eq_false c2]
  refine run ?_
  refine cp kf ?_
  refine runf (an @q1 (an @c0' @c2')) ?_
  exact er0
 have c2' : ¬ (ps.length : Int) ≤ e.old.server := by omega
 rw [decide_eq_true c1, decide_eq_true c2]
 have hlt : e.old.server.toNat < ps.length := by omega
 have hg : ps[e.old.server.toNat]? = some (ps.getD e.old.server.toNat 0) := by
  rw [List.getD_eq_getElem?_getD, List.getElem?_eq_getElem hlt]
  rfl
 generalize ps.getD e.old.server.toNat 0 = p at *
 have k1 := fverify15_c p e.old
 have k2 := fverify15_c p e.new
 have k3 := rext_c e.link e.old.size e.new.size e.root e.new.root (by omega) (by omega) h3 (by omega) h5 hl h0
 generalize extB e.old.size e.new.size e.root e.new.root e.link = xb at *
 by_cases hr : e.root = e.old.root
 ·have qr : (e.root == e.old.root) = true := by rw [hr]; exact beq_self_eq_true _
  rw [decide_eq_true hr]
  have hgoal : (((true && true && true && verifyH p e.old && verifyH p e.new) && !true) && xb) = false := by simp
  rw [hgoal]
  refine run ?_
  refine cp kf ?_
  refine runf (an @q1 (an @c0' (an @c2' @qr))) ?_
  exact er0
 have qr := nilI _ _ hr
 rw [decide_eq_false hr]
 cases hv1 : verifyH p e.old with
 | false =>
  rw [hv1] at k1
  refine run ?_
  refine cp kf ?_
  refine runf (an @q1 (an @c0' (an @c2' (an @qr (an @c0 (an @c2 (an @hg @hszp))))))) ?_
  refine cp k1 ?_
  refine run ?_
  exact er0
 | true =>
 rw [hv1] at k1
 cases hv2 : verifyH p e.new with
 | false =>
  rw [hv2] at k2
  refine run ?_
  refine cp kf ?_
  refine runf (an @q1 (an @c0' (an @c2' (an @qr (an @c0 (an @c2 (an @hg @hszp))))))) ?_
  refine cp k1 ?_
  refine runf (an @c0 (an @c2 (an @hg @hszp))) ?_
  refine cp k2 ?_
  refine run ?_
  exact er0
 | true =>
 rw [hv2] at k2
 refine run ?_
 refine cp kf ?_
 refine runf (an @q1 (an @c0' (an @c2' (an @qr (an @c0 (an @c2 (an @hg @hszp))))))) ?_
 refine cp k1 ?_
 refine runf (an @c0 (an @c2 (an @hg @hszp))) ?_
 refine cp k2 ?_
 refine run ?_
 refine cp k3 ?_
 refine run ?_
 exact er0
end Go.Proofs.YthbpbkbjdfcnjaaGreatDoor.Pe
end
