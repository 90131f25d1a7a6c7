/- Several texts in one, without what this claim does not use (tools/shake.py). -/
import Derived.Test.YtlefikdjhnaapaaGreatDoorKc1
import Derived.Test.YtlefikdjhnaapaaGreatDoorKc2
import Derived.Test.YtlefikdjhnaapaaGreatDoorKc3
import Derived.Test.YtlefikdjhnaapaaGreatDoorKc4
import Derived.Test.YtlefikdjhnaapaaGreatDoorKc5
import Derived.Test.YtlefikdjhnaapaaGreatDoorKc6
import Derived.Test.YtlefikdjhnaapaaGreatDoorKc7
import Derived.Test.YtlefikdjhnaapaaGreatDoorKo1
import Derived.WalkKit
import Derived.ProofKit
import Derived.WalkSpells
import Derived.WalkLawsBesides
import Derived.Laws.OwnMore
import Derived.Laws.IdiomStrings
import Derived.Deep.Draws
import Derived.Deep.OwnRows
import Derived.StillTailTactics
import Derived.Test.YtlefikdjhnaapaaGreatDoorChecked
import Derived.Lib.Hide
import Derived.BigRegion
import Derived.RegionTactic
import Derived.BigQuiet
import Derived.Deep.RegionLaw
import Derived.Lib.DecodeN
import Derived.Test.YtlefikdjhnaapaaGreatDoorProg
import Derived.KernelRfl
import Derived.Deep.RegionHeld3
import Derived.Lib.AppendStr
import Derived.RangeFuncNested
import Derived.RangeFuncRecord
import Derived.OrdersIn
import Derived.TacticsIn
import Derived.MapKept
import Derived.Laws.MakeOwn
import Derived.Still
import Derived.Deep.LoopGhost
import Derived.Shelf.Strings.Builder1
import Derived.Shelf.Strings.Builder2
import Derived.Shelf.Strings.OnBuilder
import Derived.Shelf.Small.Bits
import Derived.Shelf.Strconv.Itoa0
import Derived.Shelf.Bits.Mul64
import Derived.Ground.Names2Prog
import Derived.Shelf.Slices.Clone
import Derived.Ground.SlgnProg
import Derived.Shelf.SlicesE.Clone
import Derived.Below
import Derived.ChangeSame
import Derived.OpenShut
import Derived.ShutString
import Derived.Deep.Strs
import Derived.SizedLaws
import Derived.Deep.Slices
import Derived.ChangeArms
import Derived.Laws.StructEq
import Derived.Laws.Strings
import Derived.Laws.PanicsMore
import Derived.Laws.Tables
set_option linter.unusedSectionVars false
set_option linter.unusedVariables false
set_option linter.unusedSimpArgs false
section
namespace Go.Proofs.YtlefikdjhnaapaaGreatDoor.Pe
open Go Go.RowKit Co Sg Ac It Sl Wl Ql
set_option maxRecDepth 100000
set_option maxHeartbeats 4000000
abbrev stepV (x : Stp) : AV := .agg [.it .i64 x.Do, .it .i64 x.Item, .it .i64 x.Now, ints .ro x.Keep]
abbrev scrV (s : Scr) : AV := .agg [.st s.seed, .it .i64 s.server, .sl .ro (s.items.map itemV), .sl .ro (s.steps.map stepV)]
structure Win15 (x : Stp) : Prop where
 D : -9223372036854775808 ≤ x.Do ∧ x.Do ≤ 9223372036854775807
 I : -9223372036854775808 ≤ x.Item ∧ x.Item ≤ 9223372036854775807
 N : -9223372036854775808 ≤ x.Now ∧ x.Now ≤ 9223372036854775807
 K : x.Keep.length ≤ 140737488351232
theorem pick15_c (n m : Int) (h : -9223372036854775808 ≤ n ∧ n ≤ 9223372036854775807) (hm : 0 < m ∧ m ≤ 100) : AC Tryz.prog 16 [.it .i64 n, .it .i64 m] [] (.it .i64 (pickN n m)) [] := by
 refine AC.enter [] [] Tryz.func16 rfl (by decide) (by decide) (Nat.le_of_ble_eq_true rfl) (by kernel_rfl) ?_; refine zev ?_
 have h0 := pickN_in (n := n) hm.1
 have h1 : -m < n.tmod m ∧ n.tmod m < m := by
  unfold pickN at h0
  have h2 := Int.lt_tmod_of_pos n hm.1
  split at h0 <;> omega
 have hw : IntKind.i64.wrap (n.tmod m) = n.tmod m := wrap64 (by omega) (by omega)
 have hw1 : n.tmod m < 0 → IntKind.i64.wrap (n.tmod m + m) = n.tmod m + m := fun _ => wrap64 (by omega) (by omega)
 have hmz : ¬ m = 0 := by omega
 refine runf (an @hw @hmz) ?_
 by_cases h0 : n.tmod m < 0
 ·have hw1 := hw1 h0
  rw [show pickN n m = n.tmod m + m from if_pos h0]
  refine runf (an @hw (an @hw1 @hmz)) ?_
  exact er0
 ·rw [show pickN n m = n.tmod m from if_neg h0]
  refine runf (an @hw @hmz) ?_
  exact er0
def totK : List Stp → Nat
 | [] => 0
 | x :: l => x.Keep.length + totK l
theorem totK_snoc (l : List Stp) (x : Stp) : totK (l ++ [x]) = totK l + x.Keep.length := by
 induction l with
 | nil => simp [totK]
 | cons y l ih => simp only [List.cons_append, totK, ih]; omega
theorem totK_le {l : List Stp} (h : ∀ x ∈ l, x.Keep.length ≤ 140737488351232) : totK l ≤ l.length * 140737488351232 := by
 induction l with
 | nil => simp [totK]
 | cons x l ih =>
  have := ih fun y hy => h y (by simp [hy])
  have := h x (by simp)
  simp only [totK, List.length_cons, Nat.succ_mul]; omega
def fewS (s : Scr) : Bool := decide (s.items.length ≤ 12) && (decide (s.steps.length ≤ 40) && decide (s.seed.length + totK s.steps ≤ 500))
theorem few15_c (s : Scr) (hl : s.steps.length ≤ 140737488351232) (hi : s.items.length ≤ 140737488351232) (hsd : s.seed.length ≤ 140737488351232) (h : ∀ x ∈ s.steps, Win15 x) : AC Tryz.prog 9 [scrV s] [] (.bo (fewS s)) [] := by
 refine AC.enter2 [10] [] Tryz.func9 rfl (by decide) (by decide) (Nat.le_of_ble_eq_true rfl) (by kernel_rfl) ?_; refine zev ?_
 have hsz : allSz 4 (s.steps.map stepV) = true := allSz_map 4 stepV (fun _ => rfl) _
 refine run ?_
 refine loop_mk (fun m e S => e 1 = .ptr 0 0 ∧ S = [.cells [.st s.seed, .it .i64 s.server, .sl .ro (s.items.map itemV), .sl .ro (s.steps.map stepV)]] ∧ ∃ (k : Nat) (v : Int), e 4 = .it .i64 (k : Int) ∧ e 3 = .it .i64 v ∧ (s.steps.length ≤ 40 → v = (s.seed.length + totK (s.steps.take k) : Nat)) ∧ k ≤ s.steps.length ∧ m = s.steps.length - k) s.steps.length ⟨zsl, rfl, 0, s.seed.length, zsl, zsl, fun _ => rfl, by omega, rfl⟩ ?_
 rintro m e S ⟨s1, rfl, k, v, s4, s3, hv, hk, rfl⟩
 by_cases hlt : k < s.steps.length
 ·have ga : s.steps[k]? = some s.steps[k] := List.getElem?_eq_getElem hlt
  have hb := h s.steps[k] (List.getElem_mem hlt)
  have hsn := totK_snoc (s.steps.take k) s.steps[k]
  rw [← List.take_succ_eq_append_getElem hlt] at hsn
  generalize s.steps[k] = x at *
  refine runf (an @s1 (an @s3 (an @s4 (an @ga @hsz)))) ?_
  refine round_mk (s.steps.length - (k + 1)) (by omega) ⟨zsl, rfl, k + 1, _, zsl, zsl, fun hl2 => ?_, by omega, rfl⟩
  have h1 := totK_le (l := s.steps.take k) (fun a ha => (h a (List.mem_of_mem_take ha)).K)
  have h2 : (s.steps.take k).length ≤ 40 := by rw [List.length_take]; omega
  have h3 : totK (s.steps.take k) ≤ 40 * 140737488351232 := Nat.le_trans h1 (Nat.mul_le_mul_right _ h2)
  have hK := hb.K
  have hv2 := hv hl2
  rw [hv2, hsn, wrap64 (by omega) (by omega)]
  omega
 obtain rfl : k = s.steps.length := by omega
 rw [List.take_length] at hv
 unfold fewS
 by_cases h12 : s.items.length ≤ 12
 rotate_left
 ·have e1 : ¬ (s.items.length : Int) ≤ 12 := by omega
  rw [decide_eq_false h12, Bool.false_and]
  refine runf (an @s1 (an @s3 (an @s4 @e1))) ?_
  exact er0
 have e1 : (s.items.length : Int) ≤ 12 := by omega
 rw [decide_eq_true h12, Bool.true_and]
 by_cases h40 : s.steps.length ≤ 40
 rotate_left
 ·have e2 : ¬ (s.steps.length : Int) ≤ 40 := by omega
  rw [decide_eq_false h40, Bool.false_and]
  refine runf (an @s1 (an @s3 (an @s4 (an @e1 @e2)))) ?_
  exact er0
 have e2 : (s.steps.length : Int) ≤ 40 := by omega
 rw [decide_eq_true h40, Bool.true_and]
 have hv := hv h40
 by_cases h500 : s.seed.length + totK s.steps ≤ 500
 rotate_left
 ·have e3 : ¬ v ≤ 500 := by omega
  rw [decide_eq_false h500]
  refine runf (an @s1 (an @s3 (an @s4 (an @e1 (an @e2 @e3))))) ?_
  exact er0
 have e3 : v ≤ 500 := by omega
 rw [decide_eq_true h500]
 refine runf (an @s1 (an @s3 (an @s4 (an @e1 (an @e2 @e3))))) ?_
 refine cp small15_c ?_
 refine run ?_
 exact er0
theorem keyS_range (s : By) : -9223372036854775808 ≤ (keySeed s).secret ∧ (keySeed s).secret ≤ 9223372036854775807 := by
 have := Key.right_iff.1 (keySeed_right s)
 omega
abbrev stepL (x : Stp) : List AV := [.it .i64 x.Do, .it .i64 x.Item, .it .i64 x.Now, ints .ro x.Keep]
abbrev scrL (s : Scr) : List AV := [.st s.seed, .it .i64 s.server, .sl .ro (s.items.map itemV), .sl .ro (s.steps.map stepV)]
abbrev PSt (s : Scr) (k : Key) (d : Dm.Dk) (E : List It.Entry) (fl n : Nat) : Store :=
 [XD d, .cells (scrL s), .cells [.it .i64 k.secret, .it .i64 k.pub], .cells [.ptr 0 0, .it .i64 2, .sl (.own 4) ((rowsB E).map .st)], .buf E.length 9 1,
 .cells [.ptr 3 0, .it .i64 s.server, .it .i64 k.secret, .it .i64 k.pub, .sl (.own 6) (E.map entryV), .mp 7, .it .i64 (fl : Int)], .buf E.length 84 50, mapE (E.map dg), .buf n 75 6, .buf n 68 1]
theorem pst_final (s : Scr) (k : Key) (d : Dm.Dk) (E : List It.Entry) (fl n : Nat) : SubOk [0, 3, 4, 5, 6, 7] (PSt s k d E fl n) (SG d 2 s.server k E fl) := ⟨by decide, rfl, fun i o hi => by
 match i, hi with
 | 0, hi => cases hi; exact ⟨rfl, rfl⟩
 | 1, hi => cases hi; exact ⟨rfl, rfl⟩
 | 2, hi => cases hi; exact ⟨rfl, rfl⟩
 | 3, hi => cases hi; exact ⟨rfl, rfl⟩
 | 4, hi => cases hi; exact ⟨rfl, rfl⟩
 | 5, hi => cases hi; exact ⟨mapE_ok _ _, congrArg some (mapE_ren _ _).symm⟩⟩
theorem pstA_sub (s : Scr) (k : Key) (d : Dm.Dk) (E : List It.Entry) (fl n : Nat) (T : Store) : SubOk (List.range 10) (PSt s k d E fl n ++ T) (PSt s k d E fl n) := ⟨by decide, rfl, fun i o hi => by
 match i, hi with
 | 0, hi => cases hi; exact ⟨rfl, rfl⟩
 | 1, hi => cases hi; exact ⟨rfl, rfl⟩
 | 2, hi => cases hi; exact ⟨rfl, rfl⟩
 | 3, hi => cases hi; exact ⟨rfl, rfl⟩
 | 4, hi => cases hi; exact ⟨rfl, rfl⟩
 | 5, hi => cases hi; exact ⟨rfl, rfl⟩
 | 6, hi => cases hi; exact ⟨rfl, rfl⟩
 | 7, hi => cases hi; exact ⟨mapE_ok _ _, congrArg some (mapE_ren _ _).symm⟩
 | 8, hi => cases hi; exact ⟨rfl, rfl⟩
 | 9, hi => cases hi; exact ⟨rfl, rfl⟩⟩
theorem pstB_sub (s : Scr) (k : Key) (d : Dm.Dk) (E : List It.Entry) (fl n : Nat) (o3 o4 o5 o6 o7 o10 o11 : SObj) : SubOk [0, 1, 2, 12, 13, 14, 15, 16, 8, 9] [XD d, .cells (scrL s), .cells [.it .i64 k.secret, .it .i64 k.pub], o3, o4, o5, o6, o7, .buf n 75 6, .buf n 68 1, o10, o11,
    .cells [.ptr 0 0, .it .i64 2, .sl (.own 13) ((rowsB E).map .st)], .buf E.length 9 1, .cells [.ptr 12 0, .it .i64 s.server, .it .i64 k.secret, .it .i64 k.pub, .sl (.own 15) (E.map entryV), .mp 16, .it .i64 (fl : Int)], .buf E.length 84 50, mapE (E.map dg)] (PSt s k d E fl n) := ⟨by decide, rfl, fun i o hi => by
 match i, hi with
 | 0, hi => cases hi; exact ⟨rfl, rfl⟩
 | 1, hi => cases hi; exact ⟨rfl, rfl⟩
 | 2, hi => cases hi; exact ⟨rfl, rfl⟩
 | 3, hi => cases hi; exact ⟨rfl, rfl⟩
 | 4, hi => cases hi; exact ⟨rfl, rfl⟩
 | 5, hi => cases hi; exact ⟨rfl, rfl⟩
 | 6, hi => cases hi; exact ⟨rfl, rfl⟩
 | 7, hi => cases hi; exact ⟨mapE_ok _ _, congrArg some (mapE_ren _ _).symm⟩
 | 8, hi => cases hi; exact ⟨rfl, rfl⟩
 | 9, hi => cases hi; exact ⟨rfl, rfl⟩⟩
theorem win_all {E : List It.Entry} {fl : Nat} (h : E.length ≤ 100) : windowE E fl 0 100 = E.take fl := by
 unfold windowE
 rw [if_neg (by decide)]
 show List.take 100 (List.drop 0 (E.take fl)) = _
 rw [List.drop_zero, List.take_of_length_le]
 rw [List.length_take]; omega
theorem played_c (s : Scr) (d0 : Dm.Dk) (ho : openD Dm.dk0 2 = (0, d0)) (hq : QS d0 [] 0) (hs : 0 ≤ s.server ∧ s.server ≤ 19) (hi : s.items.length ≤ 12) (hl : s.steps.length ≤ 40) (hsd : s.seed.length ≤ 500) (hx : ∀ x ∈ s.steps, Win15 x) (hz : ∀ i ∈ s.items, Iz i) (st : St) (hst : st = runS s.server (keySeed s.seed) s.items ⟨d0, [], 0, []⟩ s.steps) :
  AC Tryz.prog 33 [scrV s, .ptr 0 0] [XD Dm.dk0] (.tup [.ptr 3 0, headsV (st.Fs.map (headF (keySeed s.seed) s.server)), .sl .ro (st.Fs.map entriesV)]) (SG st.d 2 s.server (keySeed s.seed) st.E st.fl) := by
 refine AC.enter2 [11, 16] [] Tryz.func33 rfl (by decide) (by decide) (Nat.le_of_ble_eq_true rfl) (by kernel_rfl) ?_; refine zev ?_
 have kk := keySeed_c s.seed (by omega)
 have hkr := keySeed_right s.seed
 have hkk := keyS_range s.seed
 generalize hkey : keySeed s.seed = k at *
 have k1 := sopen_c Dm.dk0 d0 2 s.server k [] hkr hkk hs (by decide) ho rfl (by decide) Good.nil (by decide)
 refine run ?_
 refine cp kk ?_
 refine run ?_
 refine cso 0 k1 ?_
 refine run ?_
 have hszx : allSz 4 (s.steps.map stepV) = true := allSz_map 4 stepV (fun _ => rfl) _
 have hszi : allSz 49 (s.items.map itemV) = true := allSz_map 49 itemV (fun _ => rfl) _
 refine loop_mk' (fun m e S => e 1 = .ptr 0 0 ∧ e 2 = .ptr 1 0 ∧ e 7 = .ptr 2 0 ∧ e 9 = .it .i64 0 ∧ e 8 = .ptr 5 0 ∧ ∃ (j : Nat) (t : St), t = runS s.server k s.items ⟨d0, [], 0, []⟩ (s.steps.take j) ∧ e 10 = .sl (.own 8) ((t.Fs.map (headF k s.server)).map headV) ∧ e 11 = .sl (.own 9) (t.Fs.map entriesV) ∧ e 12 = .it .i64 (j : Int) ∧ S = PSt s k t.d t.E t.fl t.Fs.length ∧ j ≤ s.steps.length ∧ m = s.steps.length - j) s.steps.length _ _
  ((Weak.reserve 1 10 (es := []) (by rfl) 75 6).trans2 (Weak.reserve 1 11 (es := []) (by rfl) 68 1)) ⟨zsl, zsl, zsl, zsl, zsl, 0, _, rfl, zsl, zsl, zsl, rfl, Nat.zero_le _, rfl⟩ ?_
 clear k1
 rintro m e S ⟨s1, s2, s7, s9, s8, j, t, ht, s10, s11, s12, rfl, hj, rfl⟩
 obtain ⟨v1, v2, v3⟩ := runS_inv (k := k) (items := s.items) hs hkr (s.steps.take j) _ (begin_inv hq)
 rw [← ht] at v1 v2 v3
 have hjl : (s.steps.take j).length = j := by rw [List.length_take]; omega
 rw [hjl] at v2 v3
 simp only [List.length_nil, Nat.zero_add] at v2 v3
 by_cases hlt : j < s.steps.length
 rotate_left
 ·obtain rfl : j = s.steps.length := by omega
  rw [List.take_length] at ht
  obtain rfl : st = t := hst.trans ht.symm
  refine runf (an @s1 (an @s2 (an @s7 (an @s8 (an @s9 (an @s10 (an @s11 @s12))))))) ?_
  exact ends_retw [0, 3, 4, 5, 6, 7] (by rfl) (pst_final ..) (by rfl) (by rfl) (by rfl)
 have ga : s.steps[j]? = some s.steps[j] := List.getElem?_eq_getElem hlt
 have hxx := hx s.steps[j] (List.getElem_mem hlt)
 have hnx : runS s.server k s.items ⟨d0, [], 0, []⟩ (s.steps.take (j + 1)) = stepS s.server k s.items t s.steps[j] := by
  rw [List.take_succ_eq_append_getElem hlt, runS_snoc, ← ht]
 have hgo := goS_spec (items := s.items) (x := s.steps[j]) hs hkr v1.q
 generalize s.steps[j] = x at *
 refine AW_cut (fun e S => e 1 = .ptr 0 0 ∧ e 2 = .ptr 1 0 ∧ e 7 = .ptr 2 0 ∧ e 9 = .it .i64 0 ∧ e 8 = .ptr 5 0 ∧ e 10 = .sl (.own 8) ((t.Fs.map (headF k s.server)).map headV) ∧ e 11 = .sl (.own 9) (t.Fs.map entriesV) ∧ e 12 = .it .i64 (j : Int) ∧ S = PSt s k t.d t.E t.fl t.Fs.length) (fun Kt hK => ?_) ?_
 ·refine runf (an @s1 (an @s2 (an @s7 (an @s8 (an @s9 (an @s10 (an @s11 @s12))))))) ?_
  exact hK _ _ ⟨zsl, zsl, zsl, zsl, zsl, zsl, zsl, zsl, rfl⟩
 clear s1 s2 s7 s8 s9 s10 s11 s12
 rintro e S ⟨s1, s2, s7, s9, s8, s10, s11, s12, rfl⟩
 rw [AW_seq, AW_block, AW_assoc, AW_assoc]
 have hits : Iz (pickI s.items x.Item) := by
  unfold pickI
  rw [List.getD_eq_getElem?_getD]
  cases h : s.items[(pickN x.Item s.items.length).toNat]? with
  | none => exact ⟨szI0, by decide, by decide, dz0⟩
  | some i => exact hz i (List.mem_of_getElem? h)
 refine AW_cut (fun e S => e 1 = .ptr 0 0 ∧ e 2 = .ptr 1 0 ∧ e 7 = .ptr 2 0 ∧ e 9 = .it .i64 0 ∧ e 8 = .ptr 5 0 ∧ e 10 = .sl (.own 8) ((t.Fs.map (headF k s.server)).map headV) ∧ e 11 = .sl (.own 9) (t.Fs.map entriesV) ∧ e 12 = .it .i64 (j : Int) ∧ e 13 = .ptr 10 0 ∧ e 14 = .ptr 11 0 ∧ ∃ cs : List AV, cs.length = 49 ∧ (AV.agg cs).wk = itemV (pickI s.items x.Item) ∧ S = PSt s k t.d t.E t.fl t.Fs.length ++ [.cells (stepL x), .cells cs]) (fun Kt hK => ?_) ?_
 ·by_cases hne : s.items.length = 0
  ·have hnil : s.items = [] := List.eq_nil_of_length_eq_zero hne
   have hpi : pickI s.items x.Item = item0 := by rw [hnil]; rfl
   rw [hpi] at hK
   have e0 : ¬ (s.items.length : Int) > 0 := by omega
   refine runf (an @s1 (an @s2 (an @s7 (an @s8 (an @s9 (an @s10 (an @s11 (an @s12 (an @ga (an @hszx @e0)))))))))) ?_
   exact hK _ _ ⟨zsl, zsl, zsl, zsl, zsl, zsl, zsl, zsl, zsl, zsl, _, by rfl, by rfl, rfl⟩
  ·have e0 : (s.items.length : Int) > 0 := by omega
   have kp := pick15_c x.Item s.items.length hxx.I ⟨by omega, by omega⟩
   have hpn := pickN_in (n := x.Item) (m := (s.items.length : Int)) (by omega)
   have hgi : s.items[(pickN x.Item s.items.length).toNat]? = some (pickI s.items x.Item) := by
    unfold pickI
    rw [List.getD_eq_getElem?_getD, List.getElem?_eq_getElem (by omega)]; rfl
   have e1 : 0 ≤ pickN x.Item s.items.length := hpn.1
   generalize pickI s.items x.Item = it at *
   generalize pickN x.Item s.items.length = p at *
   refine runf (an @s1 (an @s2 (an @s7 (an @s8 (an @s9 (an @s10 (an @s11 (an @s12 (an @ga (an @hszx @e0)))))))))) ?_
   refine cp kp ?_
   refine runf (an @s1 (an @s2 (an @s7 (an @s8 (an @s9 (an @s10 (an @s11 (an @s12 (an @e1 (an @hgi @hszi)))))))))) ?_
   exact hK _ _ ⟨zsl, zsl, zsl, zsl, zsl, zsl, zsl, zsl, zsl, zsl, _, by rfl, by rfl, rfl⟩
 clear s1 s2 s7 s8 s9 s10 s11 s12
 rintro e S ⟨s1, s2, s7, s9, s8, s10, s11, s12, s13, s14, cs, hcl, hcw, rfl⟩
 have kp := pick15_c x.Do 8 hxx.D (by decide)
 have hp8 := pickN_in (n := x.Do) (m := 8) (by decide)
 have hgdef : goS s.server k s.items t x = (if pickN x.Do 8 ≤ 2 then ((saddD t.d 2 t.E (pickI s.items x.Item) x.Now).2.1, (saddD t.d 2 t.E (pickI s.items x.Item) x.Now).2.2, t.fl)
  else if pickN x.Do 8 ≤ 4 then ((Dm.flushD t.d 2).2, t.E, if (Dm.flushD t.d 2).1 = 0 then t.E.length else t.fl)
  else if pickN x.Do 8 = 5 then ((sopenD (Dm.lose (Dm.bring (Dm.crash t.d x.Keep)) 0) 2 s.server k).2.1, (sopenD (Dm.lose (Dm.bring (Dm.crash t.d x.Keep)) 0) 2 s.server k).2.2, (sopenD (Dm.lose (Dm.bring (Dm.crash t.d x.Keep)) 0) 2 s.server k).2.2.length)
  else if pickN x.Do 8 = 6 then (Dm.lose t.d 1, t.E, t.fl) else (t.d, t.E, t.fl)) := rfl
 have hstep : stepS s.server k s.items t x = ⟨(goS s.server k s.items t x).1, (goS s.server k s.items t x).2.1, (goS s.server k s.items t x).2.2, t.Fs ++ [(goS s.server k s.items t x).2.1.take (goS s.server k s.items t x).2.2]⟩ := rfl
 rw [hstep] at hnx
 generalize goS s.server k s.items t x = G at *
 generalize pickI s.items x.Item = it at *
 generalize pickN x.Do 8 = p at *
 refine AW_cut (fun e S => e 1 = .ptr 0 0 ∧ e 2 = .ptr 1 0 ∧ e 7 = .ptr 2 0 ∧ e 9 = .it .i64 0 ∧ e 10 = .sl (.own 8) ((t.Fs.map (headF k s.server)).map headV) ∧ e 11 = .sl (.own 9) (t.Fs.map entriesV) ∧ e 12 = .it .i64 (j : Int) ∧ ((e 8 = .ptr 5 0 ∧ S = PSt s k G.1 G.2.1 G.2.2 t.Fs.length ++ [.cells (stepL x), .cells cs]) ∨ (e 8 = .ptr 14 0 ∧ ∃ o3 o4 o5 o6 o7 : SObj,
   S = [XD G.1, .cells (scrL s), .cells [.it .i64 k.secret, .it .i64 k.pub], o3, o4, o5, o6, o7, .buf t.Fs.length 75 6, .buf t.Fs.length 68 1, .cells (stepL x), .cells cs,
    .cells [.ptr 0 0, .it .i64 2, .sl (.own 13) ((rowsB G.2.1).map .st)], .buf G.2.1.length 9 1, .cells [.ptr 12 0, .it .i64 s.server, .it .i64 k.secret, .it .i64 k.pub, .sl (.own 15) (G.2.1.map entryV), .mp 16, .it .i64 (G.2.2 : Int)], .buf G.2.1.length 84 50, mapE (G.2.1.map dg)]))) (fun Kt hK => ?_) ?_
 ·obtain rfl | rfl | rfl | rfl | rfl | rfl | rfl | rfl : p = 0 ∨ p = 1 ∨ p = 2 ∨ p = 3 ∨ p = 4 ∨ p = 5 ∨ p = 6 ∨ p = 7 := by omega
  focus
   obtain rfl := hgdef
   have ka := sadd_c t.d 2 s.server k t.E t.fl it x.Now hits (by omega) (fun h => right_small h)
   refine runf (an @s1 (an @s2 (an @s7 (an @s8 (an @s9 (an @s10 (an @s11 (an @s12 (an @s13 @s14))))))))) ?_
   refine cp kp ?_
   refine runf (an @s1 (an @s2 (an @s7 (an @s8 (an @s9 (an @s10 (an @s11 (an @s12 (an @s13 (an @s14 @hcl)))))))))) ?_
   refine csg 0 3 4 5 6 7 ka ?_ (hg := congrArg (fun v => [AV.ptr 5 0, v, AV.it .i64 x.Now]) hcw)
   refine runf (an @s1 (an @s2 (an @s7 (an @s8 (an @s9 (an @s10 (an @s11 (an @s12 (an @s13 @s14))))))))) ?_
   exact hK _ _ ⟨zsl, zsl, zsl, zsl, zsl, zsl, zsl, .inl ⟨zsl, rfl⟩⟩
  focus
   obtain rfl := hgdef
   have ka := sadd_c t.d 2 s.server k t.E t.fl it x.Now hits (by omega) (fun h => right_small h)
   refine runf (an @s1 (an @s2 (an @s7 (an @s8 (an @s9 (an @s10 (an @s11 (an @s12 (an @s13 @s14))))))))) ?_
   refine cp kp ?_
   refine runf (an @s1 (an @s2 (an @s7 (an @s8 (an @s9 (an @s10 (an @s11 (an @s12 (an @s13 (an @s14 @hcl)))))))))) ?_
   refine csg 0 3 4 5 6 7 ka ?_ (hg := congrArg (fun v => [AV.ptr 5 0, v, AV.it .i64 x.Now]) hcw)
   refine runf (an @s1 (an @s2 (an @s7 (an @s8 (an @s9 (an @s10 (an @s11 (an @s12 (an @s13 @s14))))))))) ?_
   exact hK _ _ ⟨zsl, zsl, zsl, zsl, zsl, zsl, zsl, .inl ⟨zsl, rfl⟩⟩
  focus
   obtain rfl := hgdef
   have ka := sadd_c t.d 2 s.server k t.E t.fl it x.Now hits (by omega) (fun h => right_small h)
   refine runf (an @s1 (an @s2 (an @s7 (an @s8 (an @s9 (an @s10 (an @s11 (an @s12 (an @s13 @s14))))))))) ?_
   refine cp kp ?_
   refine runf (an @s1 (an @s2 (an @s7 (an @s8 (an @s9 (an @s10 (an @s11 (an @s12 (an @s13 (an @s14 @hcl)))))))))) ?_
   refine csg 0 3 4 5 6 7 ka ?_ (hg := congrArg (fun v => [AV.ptr 5 0, v, AV.it .i64 x.Now]) hcw)
   refine runf (an @s1 (an @s2 (an @s7 (an @s8 (an @s9 (an @s10 (an @s11 (an @s12 (an @s13 @s14))))))))) ?_
   exact hK _ _ ⟨zsl, zsl, zsl, zsl, zsl, zsl, zsl, .inl ⟨zsl, rfl⟩⟩
  focus
   obtain rfl := hgdef
   have ka := sflush_c t.d 2 s.server k t.E t.fl
   refine runf (an @s1 (an @s2 (an @s7 (an @s8 (an @s9 (an @s10 (an @s11 (an @s12 (an @s13 @s14))))))))) ?_
   refine cp kp ?_
   refine runf (an @s1 (an @s2 (an @s7 (an @s8 (an @s9 (an @s10 (an @s11 (an @s12 (an @s13 @s14))))))))) ?_
   refine csg 0 3 4 5 6 7 ka ?_
   refine runf (an @s1 (an @s2 (an @s7 (an @s8 (an @s9 (an @s10 (an @s11 (an @s12 (an @s13 @s14))))))))) ?_
   exact hK _ _ ⟨zsl, zsl, zsl, zsl, zsl, zsl, zsl, .inl ⟨zsl, rfl⟩⟩
  focus
   obtain rfl := hgdef
   have ka := sflush_c t.d 2 s.server k t.E t.fl
   refine runf (an @s1 (an @s2 (an @s7 (an @s8 (an @s9 (an @s10 (an @s11 (an @s12 (an @s13 @s14))))))))) ?_
   refine cp kp ?_
   refine runf (an @s1 (an @s2 (an @s7 (an @s8 (an @s9 (an @s10 (an @s11 (an @s12 (an @s13 @s14))))))))) ?_
   refine csg 0 3 4 5 6 7 ka ?_
   refine runf (an @s1 (an @s2 (an @s7 (an @s8 (an @s9 (an @s10 (an @s11 (an @s12 (an @s13 @s14))))))))) ?_
   exact hK _ _ ⟨zsl, zsl, zsl, zsl, zsl, zsl, zsl, .inl ⟨zsl, rfl⟩⟩
  focus
   obtain ⟨d', jj, r1, r2, r3, r4, r5, r6, r7⟩ := v1.q.reopen x.Keep hs hkr
   rw [r3] at hgdef
   obtain rfl := hgdef
   have kc := d_crash t.d .ro x.Keep
   have kb := d_start (Dm.crash t.d x.Keep)
   have ke := d_lose (Dm.bring (Dm.crash t.d x.Keep)) 0 (by decide)
   have ko := sopen_c (Dm.lose (Dm.bring (Dm.crash t.d x.Keep)) 0) d' 2 s.server k (t.E.take jj) hkr hkk hs (by decide) r5 r6 r7 (v1.q.good.take jj) (by rw [List.length_take]; omega)
   generalize Dm.lose (Dm.bring (Dm.crash t.d x.Keep)) 0 = d3 at *
   generalize Dm.bring (Dm.crash t.d x.Keep) = d2 at *
   generalize Dm.crash t.d x.Keep = d1 at *
   generalize hE' : t.E.take jj = E' at *
   refine runf (an @s1 (an @s2 (an @s7 (an @s8 (an @s9 (an @s10 (an @s11 (an @s12 (an @s13 @s14))))))))) ?_
   refine cp kp ?_
   refine runf (an @s1 (an @s2 (an @s7 (an @s8 (an @s9 (an @s10 (an @s11 (an @s12 (an @s13 @s14))))))))) ?_
   refine c1 0 kc ?_
   refine runf (an @s1 (an @s2 (an @s7 (an @s8 (an @s9 (an @s10 (an @s11 (an @s12 (an @s13 @s14))))))))) ?_
   refine c1 0 kb ?_
   refine runf (an @s1 (an @s2 (an @s7 (an @s8 (an @s9 (an @s10 (an @s11 (an @s12 (an @s13 @s14))))))))) ?_
   refine c1 0 ke ?_
   refine runf (an @s1 (an @s2 (an @s7 (an @s8 (an @s9 (an @s10 (an @s11 (an @s12 (an @s13 @s14))))))))) ?_
   refine cso 0 ko ?_
   refine runf (an @s1 (an @s2 (an @s7 (an @s8 (an @s9 (an @s10 (an @s11 (an @s12 (an @s13 @s14))))))))) ?_
   exact hK _ _ ⟨zsl, zsl, zsl, zsl, zsl, zsl, zsl, .inr ⟨zsl, _, _, _, _, _, rfl⟩⟩
  focus
   obtain rfl := hgdef
   have ke := d_lose t.d 1 (by decide)
   refine runf (an @s1 (an @s2 (an @s7 (an @s8 (an @s9 (an @s10 (an @s11 (an @s12 (an @s13 @s14))))))))) ?_
   refine cp kp ?_
   refine runf (an @s1 (an @s2 (an @s7 (an @s8 (an @s9 (an @s10 (an @s11 (an @s12 (an @s13 @s14))))))))) ?_
   refine c1 0 ke ?_
   refine runf (an @s1 (an @s2 (an @s7 (an @s8 (an @s9 (an @s10 (an @s11 (an @s12 (an @s13 @s14))))))))) ?_
   exact hK _ _ ⟨zsl, zsl, zsl, zsl, zsl, zsl, zsl, .inl ⟨zsl, rfl⟩⟩
  focus
   obtain rfl := hgdef
   refine runf (an @s1 (an @s2 (an @s7 (an @s8 (an @s9 (an @s10 (an @s11 (an @s12 (an @s13 @s14))))))))) ?_
   refine cp kp ?_
   refine runf (an @s1 (an @s2 (an @s7 (an @s8 (an @s9 (an @s10 (an @s11 (an @s12 (an @s13 @s14))))))))) ?_
   exact hK _ _ ⟨zsl, zsl, zsl, zsl, zsl, zsl, zsl, .inl ⟨zsl, rfl⟩⟩
 clear s1 s2 s7 s9 s8 s10 s11 s12 s13 s14
 obtain ⟨gd, gE, gf⟩ := G
 simp only at hgo hnx ⊢
 obtain ⟨q1, q2, q3⟩ := hgo
 have kh := smhead_c gd 2 s.server k gE gf hkk (by omega) (fun e he => iz_right (q1.good.right e he).2) q1.le
 have ke := sentries_c gd 2 s.server k gE gf 0 100 (by omega) q1.le (fun e he => (q1.good.right e he).2)
 rw [win_all (by omega)] at ke
 change AC _ _ _ _ (headV (headF k s.server (gE.take gf))) _ at kh
 generalize gE.take gf = F at *
 have f1 : ((t.Fs ++ [F]).map (headF k s.server)).map headV = (t.Fs.map (headF k s.server)).map headV ++ [headV (headF k s.server F)] := by simp
 have f2 : (t.Fs ++ [F]).map entriesV = t.Fs.map entriesV ++ [entriesV F] := by simp
 have f3 : (t.Fs ++ [F]).length = t.Fs.length + 1 := by simp
 have hszh := heads_sz (t.Fs.map (headF k s.server))
 have hszl : allSz 1 (t.Fs.map entriesV) = true := allSz_map 1 entriesV (fun _ => rfl) _
 have hft1 : fits (t.Fs.length + 1) 96 = true := by apply fits_ok <;> omega
 have hft2 : fits (t.Fs.length + 1) 24 = true := by apply fits_ok <;> omega
 have hln1 : ((t.Fs.map (headF k s.server)).map headV).length = t.Fs.length := by simp
 generalize headF k s.server F = hd at *
 rintro e S ⟨s1, s2, s7, s9, s10, s11, s12, ⟨s8, rfl⟩ | ⟨s8, o3, o4, o5, o6, o7, rfl⟩⟩
 ·refine runf (an @s1 (an @s2 (an @s7 (an @s8 (an @s9 (an @s10 (an @s11 @s12))))))) ?_
  refine csg 0 3 4 5 6 7 kh ?_
  refine runf (an @s1 (an @s2 (an @s7 (an @s8 (an @s9 (an @s10 (an @s11 (an @s12 (an @hszh @hft1))))))))) ?_
  refine csg 0 3 4 5 6 7 ke ?_
  refine runf (an @s1 (an @s2 (an @s7 (an @s8 (an @s9 (an @s10 (an @s11 (an @s12 (an @hszl @hft2))))))))) ?_
  exact round_mk' (s.steps.length - (j + 1)) _ _ (Weak.sub 1 (List.range 10) (((((((((KeepR.nil _ _).cons 1 (.ptr 0 0) (.ptr 0 0) rfl rfl zsl).cons 2 (.ptr 1 0) (.ptr 1 0) rfl rfl zsl).cons 7 (.ptr 2 0) (.ptr 2 0) rfl rfl zsl).cons 9 (.it .i64 0) (.it .i64 0) rfl rfl zsl).cons 8 (.ptr 5 0) (.ptr 5 0) rfl rfl zsl).cons 10 (.sl (.own 8) ((t.Fs.map (headF k s.server)).map headV ++ [headV hd])) (.sl (.own 8) ((t.Fs.map (headF k s.server)).map headV ++ [headV hd])) rfl rfl zsl).cons 11 (.sl (.own 9) (t.Fs.map entriesV ++ [entriesV F])) (.sl (.own 9) (t.Fs.map entriesV ++ [entriesV F])) rfl rfl zsl).cons 12 (.it .i64 ((j + 1 : Nat) : Int)) (.it .i64 ((j + 1 : Nat) : Int)) rfl rfl zsl) (pstA_sub s k gd gE gf (t.Fs.length + 1) _) rfl) (by omega) ⟨zsl, zsl, zsl, zsl, zsl, j + 1, _, hnx.symm, (by rw [f1]; exact zsl), (by rw [f2]; exact zsl), zsl, (by show _ = PSt s k gd gE gf (t.Fs ++ [F]).length; rw [f3]), by omega, rfl⟩
 ·refine runf (an @s1 (an @s2 (an @s7 (an @s8 (an @s9 (an @s10 (an @s11 @s12))))))) ?_
  refine csg 0 12 13 14 15 16 kh ?_
  refine runf (an @s1 (an @s2 (an @s7 (an @s8 (an @s9 (an @s10 (an @s11 (an @s12 (an @hszh @hft1))))))))) ?_
  refine csg 0 12 13 14 15 16 ke ?_
  refine runf (an @s1 (an @s2 (an @s7 (an @s8 (an @s9 (an @s10 (an @s11 (an @s12 (an @hszl @hft2))))))))) ?_
  exact round_mk' (s.steps.length - (j + 1)) _ _ (Weak.sub 1 [0, 1, 2, 12, 13, 14, 15, 16, 8, 9] (((((((((KeepR.nil _ _).cons 1 (.ptr 0 0) (.ptr 0 0) rfl rfl zsl).cons 2 (.ptr 1 0) (.ptr 1 0) rfl rfl zsl).cons 7 (.ptr 2 0) (.ptr 2 0) rfl rfl zsl).cons 9 (.it .i64 0) (.it .i64 0) rfl rfl zsl).cons 8 (.ptr 5 0) (.ptr 14 0) rfl rfl zsl).cons 10 (.sl (.own 8) ((t.Fs.map (headF k s.server)).map headV ++ [headV hd])) (.sl (.own 8) ((t.Fs.map (headF k s.server)).map headV ++ [headV hd])) rfl rfl zsl).cons 11 (.sl (.own 9) (t.Fs.map entriesV ++ [entriesV F])) (.sl (.own 9) (t.Fs.map entriesV ++ [entriesV F])) rfl rfl zsl).cons 12 (.it .i64 ((j + 1 : Nat) : Int)) (.it .i64 ((j + 1 : Nat) : Int)) rfl rfl zsl) (pstB_sub s k gd gE gf (t.Fs.length + 1) o3 o4 o5 o6 o7 _ _) rfl) (by omega) ⟨zsl, zsl, zsl, zsl, zsl, j + 1, _, hnx.symm, (by rw [f1]; exact zsl), (by rw [f2]; exact zsl), zsl, (by show _ = PSt s k gd gE gf (t.Fs ++ [F]).length; rw [f3]), by omega, rfl⟩
end Go.Proofs.YtlefikdjhnaapaaGreatDoor.Pe
end
section
namespace Go.Proofs.YtlefikdjhnaapaaGreatDoor.Pe
open Go Go.RowKit Co Sg Ac It Sl Wl Ql
set_option maxRecDepth 100000
set_option maxHeartbeats 4000000
structure WinS (s : Scr) : Prop where
 seed : s.seed.length ≤ 140737488351232
 server : -9223372036854775808 ≤ s.server ∧ s.server ≤ 9223372036854775807
 items : s.items.length ≤ 140737488351232
 steps : s.steps.length ≤ 140737488351232
 x : ∀ x ∈ s.steps, Win15 x
 z : ∀ i ∈ s.items, Iz i
theorem few_of {s : Scr} (h : fewS s = true) : s.items.length ≤ 12 ∧ s.steps.length ≤ 40 ∧ s.seed.length ≤ 500 := by
 unfold fewS at h
 simp only [Bool.and_eq_true, decide_eq_true_eq] at h
 omega
section
variable {P : Program} {pf rf : List FuncId} {e : Env} {F : FuncId} {dst : Option Nat} {rest : List AO} {K : Env → Store → Prop}
theorem AC.sp {T : Store} {d d' : Dm.Dk} {f server : Int} {k : Key} {E : List It.Entry} {fl : Nat} {a : Nat} {s : Scr} {H L : List AV} (hT : T[a]? = some (XD d)) (h : AC P F [scrV s, .ptr 0 0] [XD d] (.tup [.ptr 3 0, .sl .ro H, .sl .ro L]) (SG d' f server k E fl)) :
  AC P F [scrV s, .ptr a 0] T (.tup [.ptr (T.length + 2) 0, .sl .ro H, .sl .ro L]) (T.set a (XD d') ++ [.cells [.ptr a 0, .it .i64 f, .sl (.own (T.length + 1)) ((rowsB E).map .st)], .buf E.length 9 1, .cells [.ptr T.length 0, .it .i64 server, .it .i64 k.secret, .it .i64 k.pub, .sl (.own (T.length + 3)) (E.map entryV), .mp (T.length + 4), .it .i64 (fl : Int)], .buf E.length 84 50, mapE (E.map dg)]) := by
 have := h.frame (T := T) [a] (subOk_one a rfl hT) rfl rfl (sg_ok _ _ _ _ _ _)
 have hM : ∀ ρ, (mapE (E.map dg)).ren ρ = mapE (E.map dg) := fun ρ => mapE_ren ρ _
 unfold SG at this
 generalize mapE (E.map dg) = M at *
 simp only [after, List.map_cons, List.drop_succ_cons, List.drop_zero, List.length_cons, List.length_nil, hM] at this
 simpa [after, setAll, ext, idx, SObj.ren, AV.r1, AV.r0, Mode.ren, AV.ren, AV.r2] using this
theorem csp {gargs : List AV} {T : Store} {d d' : Dm.Dk} {f server : Int} {k : Key} {E : List It.Entry} {fl : Nat} {s : Scr} {H L : List AV} (a : Nat) (h : AC P F [scrV s, .ptr 0 0] [XD d] (.tup [.ptr 3 0, .sl .ro H, .sl .ro L]) (SG d' f server k E fl))
  (h' : ARg P pf rf rest (put e dst (.tup [.ptr (T.length + 2) 0, .sl .ro H, .sl .ro L])) (T.set a (XD d') ++ [.cells [.ptr a 0, .it .i64 f, .sl (.own (T.length + 1)) ((rowsB E).map .st)], .buf E.length 9 1, .cells [.ptr T.length 0, .it .i64 server, .it .i64 k.secret, .it .i64 k.pub, .sl (.own (T.length + 3)) (E.map entryV), .mp (T.length + 4), .it .i64 (fl : Int)], .buf E.length 84 50, mapE (E.map dg)]) K)
  (hT : T[a]? = some (XD d) := by rfl) (hg : gargs.map AV.wk = [scrV s, .ptr a 0] := by rfl) :
  callP (AnyC P F gargs T) (ARgk P pf rf dst rest e K) := call_mk (show AC P F (gargs.map AV.wk) T _ _ by rw [hg]; exact AC.sp hT h) h'
end
end Go.Proofs.YtlefikdjhnaapaaGreatDoor.Pe
end
section
namespace Go.Proofs.YtlefikdjhnaapaaGreatDoor.Pe
open Go Go.RowKit Co Sg Ac It Sl Wl Ql
set_option maxRecDepth 100000
set_option maxHeartbeats 4000000
theorem set_selfS {α : Type} {l : List α} {i : Nat} {x : α} (h : l[i]? = some x) : l.set i x = l := by
 refine List.ext_getElem? fun j => ?_
 by_cases e : i = j
 ·subst e
  rw [List.getElem?_set_self (List.getElem?_eq_some_iff.1 h).1, h]
 ·rw [List.getElem?_set_ne e]
theorem SgAt.app {T : Store} {a b c s u m : Nat} {d : Dm.Dk} {f server : Int} {k : Key} {E : List It.Entry} {fl : Nat} (h : SgAt T a b c s u m d f server k E fl) (R : Store) : SgAt (T ++ R) a b c s u m d f server k E fl :=
 ⟨h.nd, get_app h.p0 R, get_app h.p1 R, get_app h.p2 R, get_app h.p3 R, get_app h.p4 R, get_app h.p5 R⟩
theorem csgr {P : Program} {pf rf : List FuncId} {e : Env} {F : FuncId} {dst : Option Nat} {rest : List AO} {K : Env → Store → Prop} {args gargs : List AV} {T : Store} {d : Dm.Dk} {f server : Int} {k : Key} {E : List It.Entry} {fl : Nat} {v : AV} (a b c s u m : Nat) (h : AC P F (.ptr 3 0 :: args) (SG d f server k E fl) v (SG d f server k E fl))
  (h' : ARg P pf rf rest (put e dst v) T K)
  (hl : SgAt T a b c s u m d f server k E fl := by exact ⟨by decide, rfl, rfl, rfl, rfl, rfl, rfl⟩) (ha : args.all (AV.ok 0) = true := by rfl) (hv : v.ok 0 = true := by rfl) (hg : gargs.map AV.wk = .ptr s 0 :: args := by rfl) :
  callP (ReadC P F gargs T) (ARgk P pf rf dst rest e K) :=
 call_mk (show (∀ R, AC P F (gargs.map AV.wk) (T ++ R) v (T ++ R)) ∧ T = T from ⟨fun R => by
  rw [hg]
  have hq := hl.app R
  have := AC.sgs hq h ha hv
  rw [set_selfS hq.p0, set_selfS hq.p1, set_selfS hq.p2, set_selfS hq.p3, set_selfS hq.p4, set_selfS hq.p5] at this
  exact this, rfl⟩) h'
theorem recs_rows : ∀ E : List It.Entry, (recs (rowsB E)).length ≤ E.length * 300030
 | [] => by simp [recs]
 | e :: E => by
  have h1 := recs_rows E
  have h2 := entryB_len e
  have h3 := rec1_len (entryB e) (by omega)
  show (recs (entryB e :: rowsB E)).length ≤ _
  rw [recs_cons, List.length_append, List.length_cons]
  omega
theorem last_le {E : List It.Entry} (h : Ql.Good E) {i : Nat} (hi : i < E.length) : lastT (E.take i) ≤ E[i].time := by
 have ht := wi_iff.1 (h.right E[i] (List.getElem_mem hi)).1
 unfold lastT
 rw [List.getLast?_eq_getElem?, List.length_take, Nat.min_eq_left (by omega)]
 by_cases h0 : i = 0
 ·subst h0
  simp only [List.take_zero, List.getElem?_nil]
  exact ht.1
 ·rw [List.getElem?_take, if_pos (by omega), List.getElem?_eq_getElem (by omega)]
  simp only
  have := times_iff.1 h.times (i - 1) (by omega)
  have e : i - 1 + 1 = i := by omega
  simp only [e] at this
  exact this
theorem lastT_snoc (E : List It.Entry) (e : It.Entry) : lastT (E ++ [e]) = e.time := by
 unfold lastT
 rw [List.getLast?_append]
 rfl
theorem lastT_take {E : List It.Entry} {i : Nat} (hi : i < E.length) : lastT (E.take (i + 1)) = E[i].time := by
 rw [List.take_succ_eq_append_getElem hi, lastT_snoc]
theorem nextT_max {E : List It.Entry} {now : Int} (hn : 0 ≤ now) : nextT E now = if lastT E > now then lastT E else now := by
 unfold nextT lastT
 split <;> split <;> omega
theorem slogOnce_c (s : Scr) (it : It.Item) (now : Int) (hw : WinS s) (hz : Iz it) (hn : -9223372036854775808 ≤ now ∧ now ≤ 9223372036854775807) : AC Tryz.prog 4 [scrV s, itemV it, .it .i64 now] [] (.bo true) [] := by
 refine AC.enter2 [9, 10, 34, 35, 36, 37] [31] Tryz.func4 rfl (by decide) (by decide) (Nat.le_of_ble_eq_true rfl) (by kernel_rfl) ?_; refine zev ?_
 have kf := few15_c s hw.steps hw.items hw.seed hw.x
 refine run ?_
 refine cp kf ?_
 by_cases hf : fewS s = true
 rotate_left
 ·have hf : fewS s = false := by simpa using hf
  refine runf @hf ?_
  refine cp small15_c ?_
  refine run ?_
  exact er0
 by_cases h1 : s.server < 0
 ·refine runf (an @hf @h1) ?_
  refine cp small15_c ?_
  refine run ?_
  exact er0
 by_cases h2 : s.server ≥ 20
 ·refine runf (an @hf (an @h1 @h2)) ?_
  refine cp small15_c ?_
  refine run ?_
  exact er0
 obtain ⟨b1, b2, b3⟩ := few_of hf
 have hsv : 0 ≤ s.server ∧ s.server ≤ 19 := by omega
 obtain ⟨d0, o1, o2, o3⟩ := dk0_open hsv (keySeed_right s.seed)
 have hinv := runS_inv (items := s.items) hsv (keySeed_right s.seed) s.steps ⟨d0, [], 0, []⟩ (begin_inv o2)
 have kp := played_c s d0 o3 o2 hsv b1 b2 b3 hw.x hw.z _ rfl
 generalize runS s.server (keySeed s.seed) s.items ⟨d0, [], 0, []⟩ s.steps = st at *
 obtain ⟨v1, v2, v3⟩ := hinv
 simp only [List.length_nil, Nat.zero_add] at v2 v3
 have hk := keySeed_right s.seed
 have hkr := keyS_range s.seed
 generalize keySeed s.seed = k at *
 refine runf (an @hf (an @h1 @h2)) ?_
 refine call_mk (AC.newAt d_new _) ?_
 refine run ?_
 have hc1 : Wl.Calm (Dm.lose st.d 0) := ⟨v1.q.ws.up, v1.q.armed, rfl⟩
 have q1 := v1.q.lose 0 (by decide)
 have kl0 := d_lose st.d 0 (by decide)
 generalize Dm.lose st.d 0 = d1 at *
 obtain ⟨E, fl, hEE, hfl⟩ : ∃ E fl, E = st.E ∧ fl = st.fl := ⟨_, _, rfl, rfl⟩
 rw [← hEE, ← hfl] at q1
 rw [← hEE] at v2
 have hgE := q1.good
 have kp' := kp
 rw [← hEE, ← hfl] at kp'
 obtain ⟨d2, g1, g2, g3, g4⟩ := calm_flush' hc1 (n := 2) (by omega)
 rw [show ((2 : Nat) : Int) = 2 from rfl] at g1
 have kf0 := sflush_c d1 2 s.server k E fl
 rw [g1] at kf0
 simp only [if_true] at kf0
 have q2 : QS d2 E E.length := by
  rcases q1.flush with ⟨a1, a2⟩ | ⟨a1, a2⟩
  ·rw [g1] at a2; exact a2
  ·rw [g1] at a1; exact absurd rfl a1
 have ke := sentries_c d2 2 s.server k E E.length 0 100 (by omega) (Nat.le_refl _) (fun e he => (hgE.right e he).2)
 rw [win_all (by omega), List.take_length] at ke
 refine csp 2 kp' ?_
 refine run ?_
 refine c1 2 kl0 ?_
 refine run ?_
 refine csg 2 3 4 5 6 7 kf0 ?_
 refine run ?_
 refine csg 2 3 4 5 6 7 ke ?_
 have hsz := entries_sz E
 have hiz : ∀ e ∈ E, Iz e.item := fun e he => iz_right (hgE.right e he).2
 have kdi := digest_c it hz
 refine run ?_
 refine loop_mk (fun m e S => e 2 = .it .i64 now ∧ e 4 = .ptr 1 0 ∧ e 8 = .ptr 5 0 ∧ e 11 = entriesV E ∧ S = [.cells (scrL s), .cells (itemL it), XD d2, .cells [.ptr 2 0, .it .i64 2, .sl (.own 4) ((rowsB E).map .st)], .buf E.length 9 1, .cells [.ptr 3 0, .it .i64 s.server, .it .i64 k.secret, .it .i64 k.pub, .sl (.own 6) (E.map entryV), .mp 7, .it .i64 (E.length : Int)], .buf E.length 84 50, mapE (E.map dg)] ∧ ∃ i : Nat, e 14 = .it .i64 (i : Int) ∧ e 12 = .bo (decide (It.digest it ∈ (E.take i).map dg)) ∧ e 13 = .it .i64 (lastT (E.take i)) ∧ i ≤ E.length ∧ m = E.length - i) E.length ⟨zsl, zsl, zsl, zsl, rfl, 0, zsl, zsl, zsl, by omega, rfl⟩ ?_
 rintro m e S ⟨s2, s4, s8, s11, rfl, i, s14, s12, s13, hi, rfl⟩
 by_cases hlt : i < E.length
 ·have hg : E[i]? = some E[i] := List.getElem?_eq_getElem hlt
  have hx := hgE.right E[i] (List.getElem_mem hlt)
  have hll := last_le hgE hlt
  have hlt2 := lastT_take hlt
  have hne := entryB_ne.2 hx
  have hdx : ∀ j (hj : j < i), It.digest (E[j]'(by omega)).item ≠ It.digest E[i].item := fun j hj hh => by
   have := (List.pairwise_iff_getElem.1 hgE.nodup) j i (by rw [List.length_map]; omega) (by rw [List.length_map]; omega) hj
   rw [List.getElem_map, List.getElem_map] at this
   exact this hh
  have hmem : (It.digest it ∈ (E.take (i + 1)).map dg) ↔ (It.digest it ∈ (E.take i).map dg ∨ It.digest it = It.digest E[i].item) := by
   rw [List.take_succ_eq_append_getElem hlt, List.map_append, List.mem_append]
   simp
  have hzx := hiz E[i] (List.getElem_mem hlt)
  generalize E[i] = x at *
  have kr := rightI_c x.item hzx
  rw [hx.2] at kr
  have keb := entryBytes_c x hzx
  have kdx := digest_c x.item hzx
  have e1 : ¬ x.time < lastT (E.take i) := by omega
  have e2 : (entryB x == []) = false := by simpa using hne
  refine runf (an @s2 (an @s4 (an @s8 (an @s11 (an @s12 (an @s13 (an @s14 (an @hg @hsz)))))))) ?_
  refine cp kr ?_
  refine runf (an @s2 (an @s4 (an @s8 (an @s11 (an @s12 (an @s13 (an @s14 (an @hg (an @hsz @e1))))))))) ?_
  refine cp keb ?_
  refine runf (an @s2 (an @s4 (an @s8 (an @s11 (an @s12 (an @s13 (an @s14 (an @hg (an @hsz @e2))))))))) ?_
  refine loop_mk (fun m e S => e 2 = .it .i64 now ∧ e 4 = .ptr 1 0 ∧ e 8 = .ptr 5 0 ∧ e 11 = entriesV E ∧ S = [.cells (scrL s), .cells (itemL it), XD d2, .cells [.ptr 2 0, .it .i64 2, .sl (.own 4) ((rowsB E).map .st)], .buf E.length 9 1, .cells [.ptr 3 0, .it .i64 s.server, .it .i64 k.secret, .it .i64 k.pub, .sl (.own 6) (E.map entryV), .mp 7, .it .i64 (E.length : Int)], .buf E.length 84 50, mapE (E.map dg)] ∧ e 14 = .it .i64 (i : Int) ∧ e 12 = .bo (decide (It.digest it ∈ (E.take i).map dg)) ∧ e 13 = .it .i64 x.time ∧ ∃ j : Nat, e 15 = .it .i64 (j : Int) ∧ j ≤ i ∧ m = i - j) i ⟨zsl, zsl, zsl, zsl, rfl, zsl, zsl, zsl, 0, zsl, by omega, rfl⟩ ?_
  clear s2 s4 s8 s11 s12 s13 s14
  rintro m e S ⟨s2, s4, s8, s11, rfl, s14, s12, s13, j, s15, hj, rfl⟩
  by_cases hji : j < i
  ·have hgj : E[j]? = some (E[j]'(by omega)) := List.getElem?_eq_getElem (by omega)
   have hzj := hiz (E[j]'(by omega)) (List.getElem_mem _)
   have hdj := hdx j hji
   generalize E[j]'(by omega) = y at *
   have kdy := digest_c y.item hzj
   have e3 : (It.digest y.item == It.digest x.item) = false := by simpa using hdj
   refine runf (an @s2 (an @s4 (an @s8 (an @s11 (an @s14 (an @s15 (an @hgj (an @hg @hsz)))))))) ?_
   refine cp kdy ?_
   refine runf (an @s2 (an @s4 (an @s8 (an @s11 (an @s14 (an @s15 (an @hgj (an @hg @hsz)))))))) ?_
   refine cp kdx ?_
   refine runf (an @s2 (an @s4 (an @s8 (an @s11 (an @s14 (an @s15 @e3)))))) ?_
   exact round_mk (i - (j + 1)) (by omega) ⟨zsl, zsl, zsl, zsl, rfl, zsl, zsl, zsl, j + 1, zsl, by omega, rfl⟩
  ·by_cases hhas : It.digest it ∈ (E.take i).map dg
   ·have hd1 : decide (It.digest it ∈ (E.take i).map dg) = true := decide_eq_true hhas
    have hd2 : decide (It.digest it ∈ (E.take (i + 1)).map dg) = true := decide_eq_true (hmem.2 (.inl hhas))
    rw [hd1] at s12
    refine runf (an @s2 (an @s4 (an @s8 (an @s11 (an @s12 (an @s13 (an @s14 @s15))))))) ?_
    exact round_mk (E.length - (i + 1)) (by omega) ⟨zsl, zsl, zsl, zsl, rfl, i + 1, zsl, (by rw [hd2]; exact zsl), (by rw [hlt2]; exact zsl), by omega, rfl⟩
   ·have hd1 : decide (It.digest it ∈ (E.take i).map dg) = false := decide_eq_false hhas
    have hd2 : decide (It.digest it ∈ (E.take (i + 1)).map dg) = (It.digest x.item == It.digest it) := by
     rw [Bool.eq_iff_iff, decide_eq_true_eq, hmem, beq_iff_eq]
     exact ⟨fun h => (h.resolve_left hhas).symm, fun h => .inr h.symm⟩
    rw [hd1] at s12
    refine runf (an @s2 (an @s4 (an @s8 (an @s11 (an @s12 (an @s13 (an @s14 (an @s15 (an @hg @hsz))))))))) ?_
    refine cp kdx ?_
    refine runf (an @s2 (an @s4 (an @s8 (an @s11 (an @s12 (an @s13 (an @s14 @s15))))))) ?_
    refine cp kdi ?_
    refine runf (an @s2 (an @s4 (an @s8 (an @s11 (an @s13 @s14))))) ?_
    exact round_mk (E.length - (i + 1)) (by omega) ⟨zsl, zsl, zsl, zsl, rfl, i + 1, zsl, (by rw [hd2]; exact zsl), (by rw [hlt2]; exact zsl), by omega, rfl⟩
 obtain rfl : i = E.length := by omega
 rw [List.take_length] at s12 s13
 have ka := sadd_c d2 2 s.server k E E.length it now hz (by omega) (fun h => right_small h)
 have kri := rightI_c it hz
 by_cases hr : It.right it = true ∧ 0 ≤ now ∧ now ≤ 1099511627776
 rotate_left
 ·have hadd : saddD d2 2 E it now = ((0, 1), d2, E) := by unfold saddD; rw [if_neg hr]
  rw [hadd] at ka
  refine runf (an @s2 (an @s4 (an @s8 (an @s11 (an @s12 (an @s13 @s14)))))) ?_
  refine csg 2 3 4 5 6 7 ka ?_
  refine runf (an @s2 (an @s4 (an @s8 (an @s11 (an @s12 (an @s13 @s14)))))) ?_
  refine cp kri ?_
  by_cases r1 : It.right it = true
  rotate_left
  ·have r1 : It.right it = false := by simpa using r1
   refine runf (an @s2 (an @s4 (an @s8 (an @s11 (an @s12 (an @s13 (an @s14 @r1))))))) ?_
   exact er0
  by_cases r2 : now < 0
  ·refine runf (an @s2 (an @s4 (an @s8 (an @s11 (an @s12 (an @s13 (an @s14 (an @r1 @r2)))))))) ?_
   exact er0
  have r3 : now > 1099511627776 := by
   have : ¬ (0 ≤ now ∧ now ≤ 1099511627776) := fun h => hr ⟨r1, h⟩
   omega
  refine runf (an @s2 (an @s4 (an @s8 (an @s11 (an @s12 (an @s13 (an @s14 (an @r1 (an @r2 @r3))))))))) ?_
  exact er0
 obtain ⟨r1, r2⟩ := hr
 have n2 : ¬ now < 0 := by omega
 have n3 : ¬ now > 1099511627776 := by omega
 rw [r1] at kri
 by_cases hd : It.digest it ∈ E.map dg
 ·have hadd : saddD d2 2 E it now = ((0, 13), d2, E) := by unfold saddD; rw [if_pos ⟨r1, r2⟩, if_pos hd]
  rw [hadd] at ka
  rw [decide_eq_true hd] at s12
  refine runf (an @s2 (an @s4 (an @s8 (an @s11 (an @s12 (an @s13 @s14)))))) ?_
  refine csg 2 3 4 5 6 7 ka ?_
  refine runf (an @s2 (an @s4 (an @s8 (an @s11 (an @s12 (an @s13 @s14)))))) ?_
  refine cp kri ?_
  refine runf (an @s2 (an @s4 (an @s8 (an @s11 (an @s12 (an @s13 (an @s14 (an @n2 @n3)))))))) ?_
  exact er0
 rw [decide_eq_false hd] at s12
 have hel := entryB_len ⟨nextT E now, it⟩
 have hrl := rec1_len (entryB ⟨nextT E now, it⟩) (by omega)
 have hrs := recs_rows E
 obtain ⟨d3, a1, a2, a3, a4⟩ := calm_add' g2 (n := 2) (by omega) (s := entryB ⟨nextT E now, it⟩) (by omega) (by rw [q2.ws.data]; omega)
 rw [show ((2 : Nat) : Int) = 2 from rfl] at a1
 have hadd : saddD d2 2 E it now = (((E.length : Int), 0), d3, E ++ [(⟨nextT E now, it⟩ : It.Entry)]) := by
  unfold saddD
  rw [if_pos ⟨r1, r2⟩, if_neg hd, a1]
  rfl
 rw [hadd] at ka
 have hgN := hgE.snoc r1 r2 hd
 have hNl : (E ++ [(⟨nextT E now, it⟩ : It.Entry)]).length = E.length + 1 := by simp
 obtain ⟨d4, g5, g6, g7, g8⟩ := calm_flush' a2 (n := 2) (by omega)
 rw [show ((2 : Nat) : Int) = 2 from rfl] at g5
 have hnm := nextT_max (E := E) r2.1
 have hNg : (E ++ [(⟨nextT E now, it⟩ : It.Entry)])[E.length]? = some ⟨nextT E now, it⟩ := by simp
 have hlN := lastT_snoc E ⟨nextT E now, it⟩
 obtain ⟨N, hN⟩ : ∃ N, N = E ++ [(⟨nextT E now, it⟩ : It.Entry)] := ⟨_, rfl⟩
 rw [← hN] at ka hgN hNl hNg hlN
 have klN := slen_c d3 2 s.server k N E.length
 have kfN := sflush_c d3 2 s.server k N E.length
 rw [g5] at kfN
 simp only [if_true] at kfN
 have keN := sentries_c d4 2 s.server k N N.length E.length 1 (by omega) (Nat.le_refl _) (fun e he => (hgN.right e he).2)
 have hwN : windowE N N.length E.length 1 = [⟨nextT E now, it⟩] := by
  unfold windowE
  rw [if_neg (by decide), List.take_length]
  show (List.drop (E.length : Int).toNat N).take 1 = _
  rw [Int.toNat_natCast, hN, List.drop_left']
  ·rfl
  ·rfl
 rw [hwN] at keN
 have khN := smhead_c d4 2 s.server k N N.length hkr (by omega) (fun e he => iz_right (hgN.right e he).2) (Nat.le_refl _)
 have hht : (headE k s.server N N.length).time = nextT E now := by
  obtain ⟨m1, _, _⟩ := mkHead_right (l := N) (time := lastT N) hk hsv (by omega) (lastT_in hgN)
  unfold headE
  rw [List.take_length, m1]
  exact hlN
 generalize headE k s.server N N.length = hd' at *
 have ksi := sameI_c it it hz.lz hz.lz
 rw [decide_eq_true rfl] at ksi
 generalize nextT E now = nt at *
 have e1 : ((E.length : Int) != (E.length : Int)) = false := by simp
 refine runf (an @s2 (an @s4 (an @s8 (an @s11 (an @s12 (an @s13 @s14)))))) ?_
 refine csg 2 3 4 5 6 7 ka ?_
 refine runf (an @s2 (an @s4 (an @s8 (an @s11 (an @s12 (an @s13 @s14)))))) ?_
 refine cp kri ?_
 refine runf (an @s2 (an @s4 (an @s8 (an @s11 (an @s12 (an @s13 (an @s14 (an @n2 (an @n3 @e1))))))))) ?_
 refine csg 2 3 4 5 6 7 klN ?_
 refine runf (an @s2 (an @s4 (an @s8 (an @s11 (an @s12 (an @s13 (an @s14 @e1))))))) ?_
 refine csg 2 3 4 5 6 7 kfN ?_
 refine runf (an @s2 (an @s4 (an @s8 (an @s11 (an @s12 (an @s13 (an @s14 @e1))))))) ?_
 refine csg 2 3 4 5 6 7 keN ?_
 have e2 : (nt == (if lastT E > now then lastT E else now)) = true := by rw [hnm]; exact beq_self_eq_true _
 have e3 : (hd'.time == nt) = true := by rw [hht]; exact beq_self_eq_true _
 refine runf (an @s2 (an @s4 (an @s8 (an @s11 (an @s12 (an @s13 (an @s14 @e2))))))) ?_
 refine cp ksi ?_
 refine runf (an @s2 (an @s4 (an @s8 (an @s11 (an @s12 (an @s13 (an @s14 @e2))))))) ?_
 refine csgr 2 3 4 5 6 7 khN ?_
 refine runf (an @s2 (an @s4 (an @s8 (an @s11 (an @s12 (an @s13 (an @s14 @e3))))))) ?_
 exact er0
end Go.Proofs.YtlefikdjhnaapaaGreatDoor.Pe
end
section
namespace Go.Proofs.YtlefikdjhnaapaaGreatDoor.Pe
open Go Go.RowKit Co Sg Ac It Sl Ql
set_option maxRecDepth 100000
set_option maxHeartbeats 4000000
theorem shp_step {n us} (h : shp Tryz.prog 140737488351232 (n + 3) 44 us) : ∃ x : Stp, us = (stepV x).cells ∧ Win15 x := by
 have h := shp_struct Tryz.underlying44 h
 obtain ⟨a0, b0, rfl, h0, h⟩ := h
 obtain ⟨a1, b1, rfl, h1, h⟩ := h
 obtain ⟨a2, b2, rfl, h2, h⟩ := h
 obtain ⟨a3, b3, rfl, h3, rfl⟩ := h
 obtain ⟨i0, rfl, w0⟩ := shp_i64 Tryz.underlying3 h0
 obtain ⟨i1, rfl, w1⟩ := shp_i64 Tryz.underlying3 h1
 obtain ⟨i2, rfl, w2⟩ := shp_i64 Tryz.underlying3 h2
 obtain ⟨l3, rfl, w3⟩ := shp_intsI h3
 exact ⟨⟨i0, i1, i2, l3⟩, rfl, w0, w1, w2, by have := w3.1; omega⟩
theorem shp_steps {n us} (h : shp Tryz.prog 140737488351232 (n + 4) 23 us) : ∃ l : List Stp, us = [.sl .ro (l.map stepV)] ∧ l.length ≤ 140737488351232 ∧ ∀ x ∈ l, Win15 x :=
 shp_slice stepV Win15 Tryz.underlying23 h fun x hx => by
  obtain ⟨a, rfl, ha⟩ := shp_step hx
  exact ⟨a, by rw [show aggT Tryz.prog 44 = true from by kernel_rfl]; rfl, ha⟩
theorem shp_items {n us} (h : shp Tryz.prog 140737488351232 (n + 7) 22 us) : ∃ l : List It.Item, us = [.sl .ro (l.map itemV)] ∧ l.length ≤ 140737488351232 ∧ ∀ x ∈ l, Iz x :=
 shp_slice itemV Iz Tryz.underlying22 h fun x hx => by
  obtain ⟨a, rfl, ha⟩ := shp_itemI hx
  exact ⟨a, by rw [show aggT Tryz.prog 60 = true from by kernel_rfl]; rfl, ha.iz⟩
theorem shp_scr {n us} (h : shp Tryz.prog 140737488351232 (n + 8) 25 us) : ∃ s : Scr, us = (scrV s).cells ∧ WinS s := by
 have h := shp_struct Tryz.underlying25 h
 obtain ⟨a0, b0, rfl, h0, h⟩ := h
 obtain ⟨a1, b1, rfl, h1, h⟩ := h
 obtain ⟨a2, b2, rfl, h2, h⟩ := h
 obtain ⟨a3, b3, rfl, h3, rfl⟩ := h
 obtain ⟨s0, rfl, w0⟩ := shp_str Tryz.underlying9 h0
 obtain ⟨i1, rfl, w1⟩ := shp_i64 Tryz.underlying3 h1
 obtain ⟨l2, rfl, w2, w2'⟩ := shp_items h2
 obtain ⟨l3, rfl, w3, w3'⟩ := shp_steps h3
 exact ⟨⟨s0, i1, l2, l3⟩, rfl, w0, w1, w2, w3, w3', w2'⟩
end Go.Proofs.YtlefikdjhnaapaaGreatDoor.Pe
end
