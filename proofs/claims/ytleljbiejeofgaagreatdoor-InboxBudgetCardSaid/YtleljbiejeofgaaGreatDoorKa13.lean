/- Several texts in one, without what this claim does not use (tools/shake.py). -/
import Derived.Test.YtleljbiejeofgaaGreatDoorKa12
import Derived.Deep.OwnRows
import Derived.Lib.AppendStr
import Derived.Test.YtleljbiejeofgaaGreatDoorChecked
import Derived.WalkKit
import Derived.ProofKit
import Derived.WalkSpells
import Derived.Lib.Hide
import Derived.WalkLawsBesides
import Derived.BigQuiet
import Derived.StillTailTactics
import Derived.Deep.RegionLaw
set_option linter.unusedSectionVars false
set_option linter.unusedVariables false
set_option linter.unusedSimpArgs false
section
namespace Go.Proofs.YtleljbiejeofgaaGreatDoor.Pe
open Go Go.RowKit Co Sg Ac It Sl
set_option maxRecDepth 100000
set_option maxHeartbeats 4000000
theorem mright_c (ps : List Int) (m : Mirror) (hp : InL ps) (hm : EOk m.entries) (hh : m.heads.length ≤ 1000000) : AC Tryz.prog 21 [intsV ps, mirV m] [] (.bo (rightM ps m)) [] := by
 refine AC.enter2 [46, 47, 38, 48, 39] [] Tryz.func21 rfl (by decide) (by decide) (Nat.le_of_ble_eq_true rfl) (by kernel_rfl) ?_; refine zev ?_
 have hml := hm.len
 have hpl := hp.len
 have hszm := entries_sz m.entries
 have hszh := heads_sz m.heads
 have hszp : allSz 1 (ps.map (AV.it .i64)) = true := allSz_map 1 _ (fun _ => rfl) _
 have kt := stimes_c m.entries (by omega)
 unfold rightM
 by_cases c1 : 0 ≤ m.server
 rotate_left
 ·rw [decide_eq_false c1]
  refine run ?_
  exact er0
 by_cases c2 : m.server < (ps.length : Int)
 rotate_left
 ·rw [decide_eq_true c1, decide_eq_false c2]
  refine run ?_
  exact er0
 rw [decide_eq_true c1, decide_eq_true c2]
 cases ht : times m.entries with
 | false =>
  rw [ht] at kt
  refine run ?_
  refine cp kt ?_
  refine run ?_
  exact er0
 | true =>
 rw [ht] at kt
 obtain ⟨sv, hsv⟩ := Int.eq_ofNat_of_zero_le (show 0 ≤ m.server by omega)
 have hlt : sv < ps.length := by omega
 have hg : ps[m.server.toNat]? = some (ps.getD m.server.toNat 0) := by
  rw [hsv, Int.toNat_natCast, List.getD_eq_getElem?_getD, List.getElem?_eq_getElem hlt]
  rfl
 have hpr : -9223372036854775808 ≤ ps.getD m.server.toNat 0 ∧ ps.getD m.server.toNat 0 ≤ 9223372036854775807 := by
  rw [hsv, Int.toNat_natCast, List.getD_eq_getElem?_getD, List.getElem?_eq_getElem hlt]
  exact hp.rng _ (List.getElem_mem hlt)
 generalize ps.getD m.server.toNat 0 = p at *
 refine run ?_
 refine cp kt ?_
 refine run ?_
 refine loop_mk (fun mm e S => e 0 = intsV ps ∧ e 3 = .ptr 0 0 ∧ e 32 = entriesV m.entries ∧ e 33 = .it .i64 (m.entries.length : Int) ∧ ∃ (k : Nat) (acc : List By) (T : Store), e 34 = .it .i64 (k : Int) ∧ e 5 = .sl (.own 1) (acc.map .st) ∧ S = .cells [.it .i64 m.server, entriesV m.entries, headsV m.heads] :: .buf acc.length 9 1 :: T ∧ acc = (m.entries.take k).map leafE ∧ (m.entries.take k).all (sound ps) = true ∧ k ≤ m.entries.length ∧ mm = m.entries.length - k) m.entries.length
  ⟨zsl, zsl, zsl, zsl, 0, [], [], zsl, zsl, rfl, by simp, rfl, by omega, rfl⟩ ?_
 rintro mm e S ⟨s0, s3, s32, s33, k, acc, T, s34, s5, rfl, hacc, hall, hk, rfl⟩
 have hal : acc.length = k := by rw [hacc, List.length_map, List.length_take, Nat.min_eq_left hk]
 by_cases hlt2 : k < m.entries.length
 focus
  have hge : m.entries[k]? = some m.entries[k] := List.getElem?_eq_getElem hlt2
  have hz := hm.iz m.entries[k] (List.getElem_mem hlt2)
  have hstep : m.entries.take (k + 1) = m.entries.take k ++ [m.entries[k]] := List.take_succ_eq_append_getElem hlt2
  have hbad : sound ps m.entries[k] = false → m.entries.all (sound ps) = false := fun h => List.all_eq_false.2 ⟨m.entries[k], List.getElem_mem hlt2, by simp [h]⟩
  generalize m.entries[k] = x at *
  have ks := msound_c ps x hz hp
  have kl := sleaf_c x hz
  cases hso : sound ps x with
  | false =>
   rw [hso] at ks
   rw [hbad hso]
   refine runf (an @s0 (an @s3 (an @s32 (an @s33 (an @s34 (an @s5 (an @hge (an @hszm (an @tl0 @tl0s))))))))) ?_
   refine cp ks ?_
   refine runf (an @s0 (an @s3 (an @s32 (an @s33 (an @s34 @s5))))) ?_
   exact er0
  | true =>
   rw [hso] at ks
   refine runf (an @s0 (an @s3 (an @s32 (an @s33 (an @s34 (an @s5 (an @hge (an @hszm (an @tl0 @tl0s))))))))) ?_
   refine cp ks ?_
   refine runf (an @s0 (an @s3 (an @s32 (an @s33 (an @s34 (an @s5 @tl0)))))) ?_
   refine cp kl ?_
   refine runf (an @s0 (an @s3 (an @s32 (an @s33 (an @s34 @s5))))) ?_
   exact round_mk (m.entries.length - (k + 1)) (by omega) ⟨zsl, zsl, zsl, zsl, k + 1, acc ++ [leafE x], _, zsl, by rw [List.map_append]; exact zsl, by rw [List.length_append]; rfl, by rw [hstep, List.map_append, hacc]; rfl, by rw [hstep, List.all_append, hall]; simp [hso], by omega, rfl⟩
 obtain rfl : k = m.entries.length := by omega
 rw [List.take_length] at hacc hall
 rw [hall]
 have hx : ¬ ((m.entries.length : Nat) : Int) < (m.entries.length : Int) := by omega
 refine runf (an @s0 (an @s3 (an @s32 (an @s33 (an @s34 (an @s5 @hx)))))) ?_
 refine loop_mk (fun mm e S => e 0 = intsV ps ∧ e 3 = .ptr 0 0 ∧ e 49 = headsV m.heads ∧ e 50 = .it .i64 (m.heads.length : Int) ∧ e 5 = .sl (.own 1) (acc.map .st) ∧ ∃ (k : Nat) (last : Int) (T : Store), e 51 = .it .i64 (k : Int) ∧ e 8 = .it .i64 last ∧ 0 ≤ last ∧ last ≤ 1000000 ∧ S = .cells [.it .i64 m.server, entriesV m.entries, headsV m.heads] :: .buf acc.length 9 1 :: T ∧ headsOk p m 0 m.heads = headsOk p m last (m.heads.drop k) ∧ k ≤ m.heads.length ∧ mm = m.heads.length - k) m.heads.length
  ⟨zsl, zsl, zsl, zsl, zsl, 0, 0, T, zsl, zsl, by omega, by omega, rfl, rfl, by omega, rfl⟩ ?_
 clear s0 s3 s32 s33 s34 s5
 rintro mm e S ⟨s0, s3, s49, s50, s5, k, last, T, s51, s8, hl0, hl1, rfl, hok, hk, rfl⟩
 by_cases hlt3 : k < m.heads.length
 rotate_left
 ·obtain rfl : k = m.heads.length := by omega
  rw [List.drop_length] at hok
  rw [hok]
  have hx : ¬ ((m.heads.length : Nat) : Int) < (m.heads.length : Int) := by omega
  by_cases he : last = (m.entries.length : Int)
  ·rw [show headsOk p m last [] = true from decide_eq_true he]
   refine runf (an @s0 (an @s3 (an @s49 (an @s50 (an @s5 (an @s51 (an @s8 (an @hx @he)))))))) ?_
   exact er0
  ·rw [show headsOk p m last [] = false from decide_eq_false he]
   have qe : (last == (m.entries.length : Int)) = false := beqF he
   refine runf (an @s0 (an @s3 (an @s49 (an @s50 (an @s5 (an @s51 (an @s8 (an @hx @qe)))))))) ?_
   exact er0
 have hge : m.heads[k]? = some m.heads[k] := List.getElem?_eq_getElem hlt3
 have hdr : m.heads.drop k = m.heads[k] :: m.heads.drop (k + 1) := List.drop_eq_getElem_cons hlt3
 rw [hdr] at hok
 generalize m.heads[k] = h at *
 have hlm : m.server < (ps.length : Int) := c2
 have kv := sverify_c p h hpr
 have hun : headsOk p m last (h :: m.heads.drop (k + 1)) = (decide (h.server = m.server) && verifyH p h && decide (last < h.size) && decide (h.size ≤ m.entries.length) && decide (h.root = rootE (m.entries.take h.size.toNat)) && headsOk p m h.size (m.heads.drop (k + 1))) := rfl
 rw [hun] at hok
 by_cases d1 : h.server = m.server
 rotate_left
 ·have q1 : (h.server != m.server) = true := bneT d1
  rw [show headsOk p m 0 m.heads = false from by rw [hok, decide_eq_false d1]; simp]
  refine runf (an @s0 (an @s3 (an @s49 (an @s50 (an @s5 (an @s51 (an @s8 (an @hge (an @hszh (an @tl0 (an @tl0s @q1))))))))))) ?_
  exact er0
 have q1 : (h.server != m.server) = false := bneF d1
 rw [decide_eq_true d1] at hok
 cases hv : verifyH p h with
 | false =>
  rw [hv] at kv hok
  rw [show headsOk p m 0 m.heads = false from by rw [hok]; simp]
  refine runf (an @s0 (an @s3 (an @s49 (an @s50 (an @s5 (an @s51 (an @s8 (an @hge (an @hszh (an @tl0 (an @tl0s (an @q1 (an @c1 (an @hlm (an @hg @hszp))))))))))))))) ?_
  refine cp kv ?_
  refine runf (an @s0 (an @s3 (an @s49 (an @s50 (an @s5 (an @s51 @s8)))))) ?_
  exact er0
 | true =>
 rw [hv] at kv hok
 have hvr := hv
 unfold verifyH at hvr
 rw [Bool.and_eq_true] at hvr
 have hr := rightH_lin.1 hvr.1
 by_cases d3 : last < h.size
 rotate_left
 ·rw [show headsOk p m 0 m.heads = false from by rw [hok, decide_eq_false d3]; simp]
  have d3' : h.size ≤ last := by omega
  refine runf (an @s0 (an @s3 (an @s49 (an @s50 (an @s5 (an @s51 (an @s8 (an @hge (an @hszh (an @tl0 (an @tl0s (an @q1 (an @c1 (an @hlm (an @hg @hszp))))))))))))))) ?_
  refine cp kv ?_
  refine runf (an @s0 (an @s3 (an @s49 (an @s50 (an @s5 (an @s51 (an @s8 (an @tl0 @d3')))))))) ?_
  exact er0
 have d3' : ¬ h.size ≤ last := by omega
 rw [decide_eq_true d3] at hok
 by_cases d4 : h.size ≤ (m.entries.length : Int)
 rotate_left
 ·rw [show headsOk p m 0 m.heads = false from by rw [hok, decide_eq_false d4]; simp]
  have d4' : (acc.length : Int) < h.size := by omega
  refine runf (an @s0 (an @s3 (an @s49 (an @s50 (an @s5 (an @s51 (an @s8 (an @hge (an @hszh (an @tl0 (an @tl0s (an @q1 (an @c1 (an @hlm (an @hg @hszp))))))))))))))) ?_
  refine cp kv ?_
  refine runf (an @s0 (an @s3 (an @s49 (an @s50 (an @s5 (an @s51 (an @s8 (an @tl0 (an @d3' @d4'))))))))) ?_
  exact er0
 have d4' : ¬ (acc.length : Int) < h.size := by omega
 rw [decide_eq_true d4] at hok
 have hn0 : 0 ≤ h.size := by omega
 have hnl : h.size.toNat ≤ acc.length := by omega
 have kr := root_c (acc.take h.size.toNat) (by rw [List.length_take]; omega) (fun x hx => by
  have := List.mem_of_mem_take hx
  rw [hacc] at this
  rw [leaves_dig _ x this]; decide)
 have hro : Mk.root (acc.take h.size.toNat) = rootE (m.entries.take h.size.toNat) := by rw [hacc, ← List.map_take]; rfl
 rw [hro] at kr
 generalize rootE (m.entries.take h.size.toNat) = ro at *
 by_cases d5 : h.root = ro
 ·have q5 : (h.root == ro) = true := by rw [d5]; exact beq_self_eq_true _
  rw [decide_eq_true d5] at hok
  refine runf (an @s0 (an @s3 (an @s49 (an @s50 (an @s5 (an @s51 (an @s8 (an @hge (an @hszh (an @tl0 (an @tl0s (an @q1 (an @c1 (an @hlm (an @hg @hszp))))))))))))))) ?_
  refine cp kv ?_
  refine runf (an @s0 (an @s3 (an @s49 (an @s50 (an @s5 (an @s51 (an @s8 (an @tl0 (an @d3' (an @d4' (an @hn0 @hnl))))))))))) ?_
  refine cp kr ?_
  refine runf (an @s0 (an @s3 (an @s49 (an @s50 (an @s5 (an @s51 (an @s8 (an @tl0 @q5)))))))) ?_
  exact round_mk (m.heads.length - (k + 1)) (by omega) ⟨zsl, zsl, zsl, zsl, zsl, k + 1, h.size, _, zsl, zsl, by omega, by omega, rfl, hok, by omega, rfl⟩
 ·have q5 := nilI h.root ro d5
  rw [show headsOk p m 0 m.heads = false from by rw [hok, decide_eq_false d5]; simp]
  refine runf (an @s0 (an @s3 (an @s49 (an @s50 (an @s5 (an @s51 (an @s8 (an @hge (an @hszh (an @tl0 (an @tl0s (an @q1 (an @c1 (an @hlm (an @hg @hszp))))))))))))))) ?_
  refine cp kv ?_
  refine runf (an @s0 (an @s3 (an @s49 (an @s50 (an @s5 (an @s51 (an @s8 (an @tl0 (an @d3' (an @d4' (an @hn0 @hnl))))))))))) ?_
  refine cp kr ?_
  refine runf (an @s0 (an @s3 (an @s49 (an @s50 (an @s5 (an @s51 (an @s8 (an @tl0 @q5)))))))) ?_
  exact er0
end Go.Proofs.YtleljbiejeofgaaGreatDoor.Pe
end
section
namespace Go.Proofs.YtleljbiejeofgaaGreatDoor.Pe
open Go Go.RowKit Co Sg Ac It Sl
set_option maxRecDepth 100000
set_option maxHeartbeats 4000000
abbrev evV (e : Evidence) : AV := .agg [.it .i64 e.old.server, .it .i64 e.old.size, .st e.old.root, .it .i64 e.old.time, .it .i64 e.old.sig.e, .it .i64 e.old.sig.s, .it .i64 e.new.server, .it .i64 e.new.size, .st e.new.root, .it .i64 e.new.time, .it .i64 e.new.sig.e, .it .i64 e.new.sig.s, .st e.root, sls e.link]
abbrev evL (e : Evidence) : List AV := [.it .i64 e.old.server, .it .i64 e.old.size, .st e.old.root, .it .i64 e.old.time, .it .i64 e.old.sig.e, .it .i64 e.old.sig.s, .it .i64 e.new.server, .it .i64 e.new.size, .st e.new.root, .it .i64 e.new.time, .it .i64 e.new.sig.e, .it .i64 e.new.sig.s, .st e.root, sls e.link]
abbrev headL (h : Head) : List AV := [.it .i64 h.server, .it .i64 h.size, .st h.root, .it .i64 h.time, .it .i64 h.sig.e, .it .i64 h.sig.s]
theorem fkserver_c (e : Evidence) : AC Tryz.prog 68 [evV e] [] (.it .i64 e.old.server) [] := by
 refine AC.enter2 [] [] Tryz.func68 rfl (by decide) (by decide) (Nat.le_of_ble_eq_true rfl) (by kernel_rfl) ?_; refine zev ?_
 refine run ?_
 exact er0
theorem fkformed_c (e : Evidence) (hl : e.link.length ≤ 140737488355328) : AC Tryz.prog 121 [evV e] [] (.bo (formedE e)) [] := by
 refine AC.enter2 [34] [] Tryz.func121 rfl (by decide) (by decide) (Nat.le_of_ble_eq_true rfl) (by kernel_rfl) ?_; refine zev ?_
 have k1 := sright_c e.old
 have k2 := sright_c e.new
 unfold formedE
 cases h1 : rightH e.old with
 | false =>
  rw [h1] at k1
  refine run ?_
  refine cp k1 ?_
  refine run ?_
  exact er0
 | true =>
 rw [h1] at k1
 cases h2 : rightH e.new with
 | false =>
  rw [h2] at k2
  refine run ?_
  refine cp k1 ?_
  refine run ?_
  refine cp k2 ?_
  refine run ?_
  exact er0
 | true =>
 rw [h2] at k2
 by_cases h3 : e.root.length = 32
 rotate_left
 ·have h3' : ((e.root.length : Int) != 32) = true := bneT (by omega)
  rw [decide_eq_false h3]
  refine run ?_
  refine cp k1 ?_
  refine run ?_
  refine cp k2 ?_
  refine runf @h3' ?_
  exact er0
 have h3' : ((e.root.length : Int) != 32) = false := bneF (by omega)
 by_cases h4 : e.link.length ≤ 64
 rotate_left
 ·have h4' : (64 : Int) < (e.link.length : Int) := by omega
  rw [decide_eq_true h3, decide_eq_false h4]
  refine run ?_
  refine cp k1 ?_
  refine run ?_
  refine cp k2 ?_
  refine runf (an @h3' @h4') ?_
  exact er0
 have h4' : ¬ (64 : Int) < (e.link.length : Int) := by omega
 rw [decide_eq_true h3, decide_eq_true h4]
 refine run ?_
 refine cp k1 ?_
 refine run ?_
 refine cp k2 ?_
 refine runf (an @h3' @h4') ?_
 refine loop_mk (fun m en S => S = [.cells (evL e)] ∧ en 28 = sls e.link ∧ en 29 = .it .i64 (e.link.length : Int) ∧ ∃ k : Nat, en 30 = .it .i64 (k : Int) ∧ k ≤ e.link.length ∧ (e.link.take k).all dig = true ∧ m = e.link.length - k) e.link.length
  ⟨rfl, zsl, zsl, 0, zsl, by omega, rfl, rfl⟩ ?_
 rintro m en S ⟨rfl, s28, s29, k, s30, hk, hall, rfl⟩
 by_cases hlt : k < e.link.length
 ·have hg : e.link[k]? = some e.link[k] := List.getElem?_eq_getElem hlt
  have hstep : e.link.take (k + 1) = e.link.take k ++ [e.link[k]] := List.take_succ_eq_append_getElem hlt
  have hbad : dig e.link[k] = false → e.link.all dig = false := fun h => List.all_eq_false.2 ⟨e.link[k], List.getElem_mem hlt, by simp [h]⟩
  generalize e.link[k] = x at *
  by_cases hx : x.length = 32
  ·have hx' : ((x.length : Int) != 32) = false := bneF (by omega)
   have hd : dig x = true := decide_eq_true hx
   refine runf (an @s28 (an @s29 (an @s30 (an @hg @hx')))) ?_
   exact round_mk (e.link.length - (k + 1)) (by omega) ⟨rfl, zsl, zsl, k + 1, zsl, by omega, by rw [hstep, List.all_append, hall]; simp [hd], rfl⟩
  ·have hx' : ((x.length : Int) != 32) = true := bneT (by omega)
   rw [hbad (decide_eq_false hx)]
   refine runf (an @s28 (an @s29 (an @s30 (an @hg @hx')))) ?_
   exact er0
 ·obtain rfl : k = e.link.length := by omega
  rw [List.take_length] at hall
  rw [hall]
  have hx : ¬ ((e.link.length : Nat) : Int) < (e.link.length : Int) := by omega
  refine runf (an @s28 (an @s29 (an @s30 @hx))) ?_
  exact er0
theorem fkmake_c (l : List It.Entry) (now old : Head) (hl : EOk l) : AC Tryz.prog 16 [entriesV l, headV now, headV old] [] (.tup [evV (mkEv l now old).1, .bo (mkEv l now old).2]) [] := by
 refine AC.enter2 [38, 39, 40] [] Tryz.func16 rfl (by decide) (by decide) (Nat.le_of_ble_eq_true rfl) (by kernel_rfl) ?_; refine zev ?_
 have hll := hl.len
 have hsz := entries_sz l
 unfold mkEv
 by_cases c1 : now.server = old.server
 rotate_left
 ·have q1 : (now.server != old.server) = true := bneT c1
  rw [if_pos (.inl c1)]
  refine runf @q1 ?_
  exact er0w
 have q1 : (now.server != old.server) = false := bneF c1
 by_cases c2 : old.size < 0
 ·rw [if_pos (.inr (.inl c2))]
  refine runf (an @q1 @c2) ?_
  exact er0w
 by_cases c3 : now.size < old.size
 ·rw [if_pos (.inr (.inr (.inl c3)))]
  refine runf (an @q1 (an @c2 @c3)) ?_
  exact er0w
 by_cases c4 : (l.length : Int) < now.size
 ·rw [if_pos (.inr (.inr (.inr c4)))]
  refine runf (an @q1 (an @c2 (an @c3 @c4))) ?_
  exact er0w
 rw [if_neg (by rintro (h | h | h | h); exact h c1; exact c2 h; exact c3 h; exact c4 h)]
 have hn0 : 0 ≤ now.size := by omega
 have ho0 : 0 ≤ old.size := by omega
 have hnl : now.size.toNat ≤ l.length := by omega
 have hszn := entries_sz (l.take now.size.toNat)
 have hol : (l.take now.size.toNat).length = now.size.toNat := by rw [List.length_take]; omega
 have hon : old.size.toNat ≤ (l.take now.size.toNat).length := by omega
 have hlt2 : l.take old.size.toNat = (l.take now.size.toNat).take old.size.toNat := by rw [List.take_take, Nat.min_eq_left (by omega)]
 have hok := hl.take now.size.toNat
 have hokl := hok.len
 rw [hlt2]
 generalize hln : l.take now.size.toNat = ln at *
 have hoi : (ln.length : Int) = now.size := by omega
 refine runf (an @q1 (an @c2 (an @c3 (an @c4 (an @hn0 (an @hnl (an @hsz @hln))))))) ?_
 refine loop_mk (fun m e S => e 4 = .ptr 0 0 ∧ e 5 = .ptr 1 0 ∧ e 6 = .ptr 2 0 ∧ e 45 = entriesV ln ∧ e 46 = .it .i64 (ln.length : Int) ∧ ∃ (k : Nat) (acc : List By) (T : Store), e 47 = .it .i64 (k : Int) ∧ e 8 = .sl (.own 3) (acc.map .st) ∧ S = .cells (headL now) :: .cells (headL old) :: .cells [.it .i64 0, .it .i64 0, .st [], .it .i64 0, .it .i64 0, .it .i64 0, .it .i64 0, .it .i64 0, .st [], .it .i64 0, .it .i64 0, .it .i64 0, .st [], .sl .full []] :: .buf acc.length 9 1 :: T ∧ acc = (ln.take k).map leafE ∧ k ≤ ln.length ∧ m = ln.length - k) ln.length
  ⟨zsl, zsl, zsl, zsl, zsl, 0, [], [], zsl, zsl, rfl, by simp, by omega, rfl⟩ ?_
 rintro m e S ⟨s4, s5, s6, s45, s46, k, acc, T, s47, s8, rfl, hacc, hk, rfl⟩
 have hal : acc.length = k := by rw [hacc, List.length_map, List.length_take, Nat.min_eq_left hk]
 by_cases hlt : k < ln.length
 ·have hg : ln[k]? = some ln[k] := List.getElem?_eq_getElem hlt
  have hz := hok.iz ln[k] (List.getElem_mem hlt)
  have hst : acc ++ [leafE ln[k]] = (ln.take (k + 1)).map leafE := by rw [List.take_succ_eq_append_getElem hlt, List.map_append, ← hacc]; rfl
  generalize ln[k] = x at *
  have kx := sleaf_c x hz
  refine runf (an @s4 (an @s5 (an @s6 (an @s45 (an @s46 (an @s47 (an @s8 (an @hg (an @hszn (an @tl0 @tl0s)))))))))) ?_
  refine cp kx ?_
  refine runf (an @s4 (an @s5 (an @s6 (an @s45 (an @s46 (an @s47 @s8)))))) ?_
  exact round_mk (ln.length - (k + 1)) (by omega) ⟨zsl, zsl, zsl, zsl, zsl, k + 1, acc ++ [leafE x], _, zsl, by rw [List.map_append]; exact zsl, by rw [List.length_append]; rfl, hst, by omega, rfl⟩
 obtain rfl : k = ln.length := by omega
 rw [List.take_length] at hacc
 have hx : ¬ ((ln.length : Nat) : Int) < (ln.length : Int) := by omega
 have hx32 : ∀ x ∈ acc, x.length ≤ 1000000 := fun x hx => by rw [hacc] at hx; rw [leaves_dig _ x hx]; decide
 have hoa : old.size.toNat ≤ acc.length := by omega
 have kr1 := root_c (acc.take old.size.toNat) (by rw [List.length_take]; omega) (fun x hx => hx32 x (List.mem_of_mem_take hx))
 have kr2 := root_c acc (by omega) hx32
 have kl := link_c acc old.size.toNat hoa (by omega) hx32
 have e1 : Mk.root (acc.take old.size.toNat) = rootE (ln.take old.size.toNat) := by rw [hacc, ← List.map_take]; rfl
 have e2 : Mk.root acc = rootE ln := by rw [hacc]; rfl
 have e3 : (if old.size.toNat = 0 then [] else Mk.link acc old.size.toNat true) = linkE (ln.map leafE) old.size.toNat := by rw [hacc]; rfl
 have e4 : ((old.size.toNat : Nat) : Int) = old.size := by omega
 rw [e1] at kr1
 rw [e2] at kr2
 rw [e3, e4] at kl
 generalize rootE (ln.take old.size.toNat) = ro at *
 generalize rootE ln = rn at *
 generalize linkE (ln.map leafE) old.size.toNat = lk at *
 rw [upd_self s6]
 refine runf (an @s4 (an @s5 (an @s6 (an @s45 (an @s46 (an @s47 (an @s8 (an @hx (an @ho0 @hoa))))))))) ?_
 refine cp kr1 ?_
 refine runf (an @s4 (an @s5 (an @s6 (an @s45 (an @s46 (an @s47 @s8)))))) ?_
 refine cp kr2 ?_
 by_cases d1 : rn = now.root
 rotate_left
 ·have p1 := nilI _ _ d1
  rw [if_pos (.inl d1)]
  refine runf (an @s4 (an @s5 (an @s6 (an @s45 (an @s46 (an @s47 (an @s8 @p1))))))) ?_
  exact er0w
 have p1 : (rn == now.root) = true := by rw [d1]; exact beq_self_eq_true _
 by_cases d2 : ro = old.root
 ·have p2 : (ro == old.root) = true := by rw [d2]; exact beq_self_eq_true _
  rw [if_pos (.inr d2)]
  refine runf (an @s4 (an @s5 (an @s6 (an @s45 (an @s46 (an @s47 (an @s8 (an @p1 @p2)))))))) ?_
  exact er0w
 have p2 := nilI _ _ d2
 rw [if_neg (by rintro (h | h); exact h d1; exact d2 h)]
 refine runf (an @s4 (an @s5 (an @s6 (an @s45 (an @s46 (an @s47 (an @s8 (an @p1 @p2)))))))) ?_
 refine cp kl ?_
 refine runf (an @s4 (an @s5 (an @s6 (an @s45 (an @s46 (an @s47 @s8)))))) ?_
 exact er0w
theorem fkcheck_c (ps : List Int) (e : Evidence) (hp : InL ps) (hl : e.link.length ≤ 1000000) : AC Tryz.prog 67 [intsV ps, evV e] [] (.bo (checkE ps e)) [] := by
 refine AC.enter2 [121, 48, 122] [] Tryz.func67 rfl (by decide) (by decide) (Nat.le_of_ble_eq_true rfl) (by kernel_rfl) ?_; refine zev ?_
 have hpl := hp.len
 have kf := fkformed_c e (by omega)
 have hszp : allSz 1 (ps.map (AV.it .i64)) = true := allSz_map 1 _ (fun _ => rfl) _
 unfold checkE
 cases hf : formedE e with
 | false =>
  rw [hf] at kf
  refine run ?_
  refine cp kf ?_
  refine run ?_
  exact er0
 | true =>
 rw [hf] at kf
 obtain ⟨h1, h2, h3, h4, h5⟩ := formedE_iff.1 hf
 have r1 := rightH_lin.1 h1
 have r2 := rightH_lin.1 h2
 by_cases c1 : e.old.server = e.new.server
 rotate_left
 ·have q1 : (e.old.server != e.new.server) = true := bneT c1
  rw [decide_eq_false c1]
  refine run ?_
  refine cp kf ?_
  refine runf @q1 ?_
  exact er0
 have q1 : (e.old.server != e.new.server) = false := bneF c1
 by_cases c2 : e.old.server < (ps.length : Int)
 rotate_left
 ·rw [decide_eq_true c1, decide_eq_false c2]
  refine run ?_
  refine cp kf ?_
  refine runf (an @q1 @c2) ?_
  exact er0
 rw [decide_eq_true c1, decide_eq_true c2]
 have c0 : 0 ≤ e.old.server := by omega
 have hlt : e.old.server.toNat < ps.length := by omega
 have hg : ps[e.old.server.toNat]? = some (ps.getD e.old.server.toNat 0) := by
  rw [List.getD_eq_getElem?_getD, List.getElem?_eq_getElem hlt]
  rfl
 have hpr : -9223372036854775808 ≤ ps.getD e.old.server.toNat 0 ∧ ps.getD e.old.server.toNat 0 ≤ 9223372036854775807 := by
  rw [List.getD_eq_getElem?_getD, List.getElem?_eq_getElem hlt]
  exact hp.rng _ (List.getElem_mem hlt)
 generalize ps.getD e.old.server.toNat 0 = p at *
 have k1 := sverify_c p e.old hpr
 have k2 := sverify_c p e.new hpr
 have k3 := extends_c e.link e.old.size e.new.size e.root e.new.root (by omega) hl (fun y hy => by rw [h5 y hy]; decide)
 generalize extB e.old.size e.new.size e.root e.new.root e.link = xb at *
 cases hv1 : verifyH p e.old with
 | false =>
  rw [hv1] at k1
  refine run ?_
  refine cp kf ?_
  refine runf (an @q1 (an @c2 (an @c0 (an @hg @hszp)))) ?_
  refine cp k1 ?_
  refine run ?_
  exact er0
 | true =>
 rw [hv1] at k1
 cases hv2 : verifyH p e.new with
 | false =>
  rw [hv2] at k2
  refine run ?_
  refine cp kf ?_
  refine runf (an @q1 (an @c2 (an @c0 (an @hg @hszp)))) ?_
  refine cp k1 ?_
  refine run ?_
  refine cp k2 ?_
  refine run ?_
  exact er0
 | true =>
 rw [hv2] at k2
 by_cases hr : e.root = e.old.root
 ·have qr : (e.root == e.old.root) = true := by rw [hr]; exact beq_self_eq_true _
  rw [decide_eq_true hr]
  refine run ?_
  refine cp kf ?_
  refine runf (an @q1 (an @c2 (an @c0 (an @hg @hszp)))) ?_
  refine cp k1 ?_
  refine run ?_
  refine cp k2 ?_
  refine runf @qr ?_
  exact er0
 ·have qr := nilI _ _ hr
  rw [decide_eq_false hr]
  refine run ?_
  refine cp kf ?_
  refine runf (an @q1 (an @c2 (an @c0 (an @hg @hszp)))) ?_
  refine cp k1 ?_
  refine run ?_
  refine cp k2 ?_
  refine runf @qr ?_
  refine cp k3 ?_
  refine run ?_
  exact er0
theorem linkE_len (l : List By) (m : Nat) (hm : m ≤ l.length) : (linkE l m).length ≤ l.length := by
 unfold linkE
 split
 ·exact Nat.zero_le _
 ·exact link_len l.length l m true (by omega) hm (Nat.le_refl _)
theorem fkfind_c (ps : List Int) (m : Mirror) (h : Head) (hp : InL ps) (hm : EOk m.entries) (hh : m.heads.length ≤ 1000000) : AC Tryz.prog 116 [intsV ps, mirV m, headV h] [] (.tup [evV (findE ps m.entries m.heads h).1, .bo (findE ps m.entries m.heads h).2]) [] := by
 refine AC.enter2 [16, 67] [] Tryz.func116 rfl (by decide) (by decide) (Nat.le_of_ble_eq_true rfl) (by kernel_rfl) ?_; refine zev ?_
 have hszh := heads_sz m.heads
 cases hgl : m.heads.getLast? with
 | none =>
  have h0 : m.heads = [] := List.getLast?_eq_none_iff.1 hgl
  have hl0 : m.heads.length = 0 := by rw [h0]; rfl
  have hv : findE ps m.entries m.heads h = (evid0, false) := by unfold findE; rw [hgl]
  rw [hv]
  refine runf @hl0 ?_
  exact er0w
 | some x =>
  have hpos : 0 < m.heads.length := by
   cases hh : m.heads with
   | nil => rw [hh] at hgl; cases hgl
   | cons a b => simp
  obtain ⟨n, hn⟩ : ∃ n, m.heads.length = n + 1 := ⟨m.heads.length - 1, by omega⟩
  have hg : m.heads[n]? = some x := by rw [List.getLast?_eq_getElem?, hn] at hgl; simpa using hgl
  have hc : (m.heads.length : Int) - 1 = (n : Int) := by omega
  have hl0 : ((m.heads.length : Int) == 0) = false := beqF (by omega)
  have k1 := fkmake_c m.entries x h hm
  have hlk : (mkEv m.entries x h).1.link.length ≤ 1000000 := by
   unfold mkEv
   split
   ·exact Nat.zero_le _
   ·split
    ·exact Nat.zero_le _
    ·rename_i c1 c2
     have := hm.len
     have hlen : ((m.entries.take x.size.toNat).map leafE).length ≤ 1000000 := by rw [List.length_map, List.length_take]; omega
     refine Nat.le_trans (linkE_len _ _ ?_) hlen
     rw [List.length_map, List.length_take]
     omega
  have k2 := fkcheck_c ps (mkEv m.entries x h).1 hp hlk
  have hv : findE ps m.entries m.heads h = if (mkEv m.entries x h).2 = true ∧ checkE ps (mkEv m.entries x h).1 = true then ((mkEv m.entries x h).1, true) else (evid0, false) := by unfold findE; rw [hgl]
  generalize mkEv m.entries x h = r at *
  obtain ⟨ev, ok⟩ := r
  simp only at k1 k2 hv
  cases ok with
  | false =>
   rw [if_neg (fun h => by cases h.1)] at hv
   rw [hv]
   refine runf (an @hl0 (an @hc (an @hg @hszh))) ?_
   refine cp k1 ?_
   refine run ?_
   exact er0w
  | true =>
   cases hck : checkE ps ev with
   | false =>
    rw [hck] at k2
    rw [if_neg (fun h => by rw [hck] at h; cases h.2)] at hv
    rw [hv]
    refine runf (an @hl0 (an @hc (an @hg @hszh))) ?_
    refine cp k1 ?_
    refine run ?_
    refine cp k2 ?_
    refine run ?_
    exact er0w
   | true =>
    rw [hck] at k2
    rw [if_pos ⟨rfl, hck⟩] at hv
    rw [hv]
    refine runf (an @hl0 (an @hc (an @hg @hszh))) ?_
    refine cp k1 ?_
    refine run ?_
    refine cp k2 ?_
    refine run ?_
    exact er0w
end Go.Proofs.YtleljbiejeofgaaGreatDoor.Pe
end
section
namespace Go.Proofs.YtleljbiejeofgaaGreatDoor.Pe
open Go Go.RowKit Co Sg Ac It Sl
set_option maxRecDepth 100000
set_option maxHeartbeats 4000000
theorem evidB_len (e : Evidence) : (evidB e).length ≤ 900000000 := by
 unfold evidB
 split
 ·rename_i h
  obtain ⟨h1, h2, h3, h4, h5⟩ := formedE_iff.1 h
  have a1 := text_le (headB e.old) (by have := headB_len e.old; omega)
  have a2 := text_le (headB e.new) (by have := headB_len e.new; omega)
  have a3 := text_len (s := e.root) (by omega)
  have a4 : (list e.link).length ≤ 100000000 := by
   have hn := num_len9 (n := e.link.length) (by omega)
   have hf := fl_len (l := e.link) (fun x hx => by rw [h5 x hx]; decide)
   have : e.link.length * 1000009 ≤ 64 * 1000009 := Nat.mul_le_mul_right _ h4
   unfold list
   rw [List.length_append]
   omega
  simp only [List.length_append]
  omega
 ·exact Nat.zero_le _
theorem fkbytes_c (e : Evidence) (hl : e.link.length ≤ 140737488355328) : AC Tryz.prog 161 [evV e] [] (.st (evidB e)) [] := by
 refine AC.enter2 [121, 114, 74, 202] [] Tryz.func161 rfl (by decide) (by decide) (Nat.le_of_ble_eq_true rfl) (by kernel_rfl) ?_; refine zev ?_
 have kf := fkformed_c e hl
 have hlen := evidB_len e
 unfold evidB at hlen ⊢
 cases hf : formedE e with
 | false =>
  rw [hf] at kf
  rw [if_neg (by simp)]
  refine run ?_
  refine cp kf ?_
  refine run ?_
  exact er0
 | true =>
  rw [hf] at kf hlen
  rw [if_pos rfl] at hlen ⊢
  obtain ⟨h1, h2, h3, h4, h5⟩ := formedE_iff.1 hf
  have b1 := headB_len e.old
  have b2 := headB_len e.new
  have k1 := sheadBytes_c e.old
  have k2 := sheadBytes_c e.new
  have k3 := text_c (headB e.old) (by omega)
  have k4 := text_c (headB e.new) (by omega)
  have k5 := text_c e.root (by omega)
  have k6 := list_c e.link (by omega) (fun x hx => by rw [h5 x hx]; decide)
  simp only [List.length_append] at hlen
  generalize text (headB e.old) = t1 at *
  generalize text (headB e.new) = t2 at *
  generalize text e.root = t3 at *
  generalize list e.link = t4 at *
  refine run ?_
  refine cp kf ?_
  refine run ?_
  refine cp k1 ?_
  refine run ?_
  refine cp k3 ?_
  refine run ?_
  refine cp k2 ?_
  refine run ?_
  refine cp k4 ?_
  refine run ?_
  refine cp k5 ?_
  refine run ?_
  refine cp k6 ?_
  refine run ?_
  exact er0
end Go.Proofs.YtleljbiejeofgaaGreatDoor.Pe
end
section
namespace Go.Proofs.YtleljbiejeofgaaGreatDoor.Sl
open Go Co Sg Ac It
structure Receipt where
 frm : Int
 head : Head
 sig : Sig
 deriving DecidableEq
structure Grave where
 at' : Int
 entry : It.Entry
 path : List By
 rcpt : Receipt
 deriving DecidableEq
end Go.Proofs.YtleljbiejeofgaaGreatDoor.Sl
end
section
namespace Go.Proofs.YtleljbiejeofgaaGreatDoor.Pe
open Go Go.RowKit Co Sg Ac It Sl
set_option maxRecDepth 100000
set_option maxHeartbeats 4000000
structure InR (r : Receipt) : Prop where
 frm : -9223372036854775808 ≤ r.frm ∧ r.frm ≤ 9223372036854775807
 e : -9223372036854775808 ≤ r.sig.e ∧ r.sig.e ≤ 9223372036854775807
end Go.Proofs.YtleljbiejeofgaaGreatDoor.Pe
end
section
namespace Go.Proofs.YtleljbiejeofgaaGreatDoor.Pe
open Go Go.RowKit Co Sg Ac It Sl Wl
set_option maxRecDepth 100000
set_option maxHeartbeats 4000000
theorem ikey_c (n : Nat) (h : n < 3) : AC Tryz.prog 15 [.it .i64 (n : Int)] [] (keyV (iKey n)) [] := by
 have k0 := keySeed_c (iSeed 0) (by decide)
 change AC _ _ [.st [105, 48]] _ (keyV (iKey 0)) _ at k0
 have k1 := keySeed_c (iSeed 1) (by decide)
 change AC _ _ [.st [105, 49]] _ (keyV (iKey 1)) _ at k1
 have k2 := keySeed_c (iSeed 2) (by decide)
 change AC _ _ [.st [105, 50]] _ (keyV (iKey 2)) _ at k2
 obtain rfl | rfl | rfl : n = 0 ∨ n = 1 ∨ n = 2 := by omega
 ·generalize iKey 0 = kk at *
  refine AC.enter2 [37] [] Tryz.func15 rfl (by decide) (by decide) (Nat.le_of_ble_eq_true rfl) (by kernel_rfl) ?_; refine zev ?_
  refine run ?_
  refine cp k0 ?_
  refine run ?_
  exact er0
 ·generalize iKey 1 = kk at *
  refine AC.enter2 [37] [] Tryz.func15 rfl (by decide) (by decide) (Nat.le_of_ble_eq_true rfl) (by kernel_rfl) ?_; refine zev ?_
  refine run ?_
  refine cp k1 ?_
  refine run ?_
  exact er0
 ·generalize iKey 2 = kk at *
  refine AC.enter2 [37] [] Tryz.func15 rfl (by decide) (by decide) (Nat.le_of_ble_eq_true rfl) (by kernel_rfl) ?_; refine zev ?_
  refine run ?_
  refine cp k2 ?_
  refine run ?_
  exact er0
theorem ipubs_c : AC Tryz.prog 22 [] [] (intsV iPubs) [] := by
 have k0 := ikey_c 0 (by decide)
 have k1 := ikey_c 1 (by decide)
 have k2 := ikey_c 2 (by decide)
 have e : iPubs = [(iKey 0).pub, (iKey 1).pub, (iKey 2).pub] := rfl
 rw [e]
 generalize iKey 0 = a at *
 generalize iKey 1 = b at *
 generalize iKey 2 = c at *
 refine AC.enter2 [15] [] Tryz.func22 rfl (by decide) (by decide) (Nat.le_of_ble_eq_true rfl) (by kernel_rfl) ?_; refine zev ?_
 refine run ?_
 refine cp k0 ?_
 refine run ?_
 refine cp k1 ?_
 refine run ?_
 refine cp k2 ?_
 refine run ?_
 exact er0w
theorem pick47_c (n m : Int) (h : -9223372036854775808 ≤ n ∧ n ≤ 9223372036854775807) (hm : 0 < m ∧ m ≤ 1000000) : AC Tryz.prog 11 [.it .i64 n, .it .i64 m] [] (.it .i64 (pickN47 n m)) [] := by
 refine AC.enter [] [] Tryz.func11 rfl (by decide) (by decide) (Nat.le_of_ble_eq_true rfl) (by kernel_rfl) ?_; refine zev ?_
 have h0 := pick_in (n := n) hm.1
 have h1 : -m < n.tmod m ∧ n.tmod m < m := by
  unfold pickN47 at h0
  have h2 := Int.lt_tmod_of_pos n hm.1
  split at h0 <;> omega
 have hw : IntKind.i64.wrap (n.tmod m) = n.tmod m := wrap64 (by omega) (by omega)
 have hw1 : n.tmod m < 0 → IntKind.i64.wrap (n.tmod m + m) = n.tmod m + m := fun _ => wrap64 (by omega) (by omega)
 have hmz : ¬ m = 0 := by omega
 refine runf (an @hw @hmz) ?_
 by_cases h0 : n.tmod m < 0
 ·have hw1 := hw1 h0
  rw [show pickN47 n m = n.tmod m + m from if_pos h0]
  refine runf (an @hw (an @hw1 @hmz)) ?_
  exact er0
 ·rw [show pickN47 n m = n.tmod m from if_neg h0]
  refine runf (an @hw @hmz) ?_
  exact er0
theorem oneC0_sh {n : Int} (h : 0 ≤ n ∧ n ≤ 1099511627776) : Sh (ofClaim (oneC0 n)) := by
 have ht : isTime n = true := wi_iff.2 h
 have hs : sigR sig0 = true := by decide
 have key : ∀ g : Sig, sigR g = true → rightClaim ⟨(oneC0 n).actor, 1, (oneC0 n).prev, 0, 0, 5, n, g⟩ = true := fun g hg => by
  unfold rightClaim
  simp only
  rw [ht, hg]
  rfl
 exact sh_right ((right_claim (it := ofClaim (oneC0 n)) rfl).2 ⟨key _ hs, rfl, rfl, rfl⟩)
theorem iKey_range (n : Nat) : -9223372036854775808 ≤ (iKey n).secret ∧ (iKey n).secret ≤ 9223372036854775807 := by
 have := Key.right_iff.1 (iKey_right n)
 omega
theorem one47_c (n : Int) (h : 0 ≤ n ∧ n ≤ 1000000) : AC Tryz.prog 25 [.it .i64 n] [] (itemV (oneI n)) [] := by
 have k0 := ikey_c 2 (by decide)
 have hs : Sh (ofClaim (oneC0 n)) := oneC0_sh (by omega)
 have k1 := signClaim_c (iKey 2) (oneC0 n) hs (iKey_range 2)
 have k2 := ofClaim_c (oneC n)
 change AC _ _ _ _ (claimV (oneC n)) _ at k1
 change AC _ _ _ _ (itemV (oneI n)) _ at k2
 generalize oneI n = I at *
 generalize oneC n = C at *
 generalize iKey 2 = kk at *
 unfold oneC0 at k1
 refine AC.enter2 [15, 56, 55] [] Tryz.func25 rfl (by decide) (by decide) (Nat.le_of_ble_eq_true rfl) (by kernel_rfl) ?_; refine zev ?_
 refine run ?_
 refine cp k0 ?_
 refine run ?_
 refine cp k1 ?_
 refine run ?_
 refine cp k2 ?_
 refine run ?_
 exact er0
end Go.Proofs.YtleljbiejeofgaaGreatDoor.Pe
end
section
namespace Go.Proofs.YtleljbiejeofgaaGreatDoor.Sl
open Go Co Sg Ac It
theorem rowsOfB_le {b : Batch} (hs : ∀ e ∈ b.entries, (entryB e).length ≤ 200) (hr : rightH b.head = true) (hf : b.frm ≤ 1000) (hl : b.entries.length ≤ 20) : ∀ r ∈ rowsOfB b, r.length ≤ 210 := fun r h => by
 rcases List.mem_append.1 h with h | h
 ·obtain ⟨e, he, rfl⟩ := List.mem_map.1 h
  exact rowE_len (hs e he)
 ·rw [List.mem_singleton.1 h]
  have := rowH_len hr (frm := b.frm) (n := b.entries.length) (by omega) (by omega)
  omega
theorem rowsOfB_len (b : Batch) : (rowsOfB b).length = b.entries.length + 1 := by
 unfold rowsOfB
 rw [List.length_append, List.length_map]
 rfl
theorem CD.batch {d : Dm.Dk} {N : Nat} (h : CD d N) {b : Batch} (hl : b.entries.length ≤ 20) (hs : ∀ e ∈ b.entries, (entryB e).length ≤ 200) (hr : rightH b.head = true) (hf : b.frm ≤ 1000) (hN : N + 4683 ≤ 16777216) :
  CD (keepD d (rowsOfB b)) (N + 4683) ∧ ∃ d', Dm.flushD (keepD d (rowsOfB b)) 2 = (0, d') ∧ CD d' (N + 4683) := by
 have hn := rowsOfB_len b
 have hm : (b.entries.length + 1) * (210 + 13) ≤ 21 * 223 := Nat.mul_le_mul_right _ (by omega)
 have h1 := CD.keep (B := 210) (by omega) (rowsOfB b) h (rowsOfB_le hs hr hf hl) (by rw [hn]; omega)
 rw [hn] at h1
 have h2 := h1.mono (M := N + 4683) (by omega)
 exact ⟨h2, h2.flush⟩
theorem CD.proof {d : Dm.Dk} {N : Nat} (h : CD d N) {e : Evidence} (he : formedE e = true) (hN : N + 3013 ≤ 16777216) :
  CD (keepD d [rowP e]) (N + 3013) ∧ ∃ d', Dm.flushD (keepD d [rowP e]) 2 = (0, d') ∧ CD d' (N + 3013) := by
 have h1 := CD.keep (B := 3000) (by omega) [rowP e] h (fun r hr => by rw [List.mem_singleton.1 hr]; exact rowP_len he) (by simp; omega)
 have h2 := h1.mono (M := N + 3013) (by simp)
 exact ⟨h2, h2.flush⟩
theorem ents_part {l : List Int} (h : l.length ≤ 1000) (frm t : Nat) : ∀ e ∈ ((ents l).take t).drop frm, (entryB e).length ≤ 200 := fun e he =>
 ents_small h e (List.mem_of_mem_take (List.mem_of_mem_drop he))
end Go.Proofs.YtleljbiejeofgaaGreatDoor.Sl
end
section
namespace Go.Proofs.YtleljbiejeofgaaGreatDoor.Sl
open Go Co Sg Ac It
set_option maxRecDepth 100000
theorem small_ne : rootE (ents [1, 2]) ≠ rootE (ents [1, 3]) := by decide +kernel
theorem split_ne : rootE ((ents [2, 3]).take 1) ≠ rootE (ents [1]) := by decide +kernel
end Go.Proofs.YtleljbiejeofgaaGreatDoor.Sl
end
section
namespace Go.Proofs.YtleljbiejeofgaaGreatDoor.Sl
open Go Co Sg Ac It
set_option maxRecDepth 100000
def evSplit : Evidence := evOf (iKey 1) 1 (ents [2, 3]) (ents [1]) 0 0
theorem split_made : Made (iKey 1) 1 (ents [2, 3]) (ents [1]) 0 0 :=
 made_of (iKey_right 1) ⟨by decide, by decide⟩ (by rw [ents_len]; decide) (by rw [ents_len, ents_len]; decide) ⟨by decide, by decide⟩ ⟨by decide, by decide⟩
theorem split_eq : mkEv (ents [2, 3]) (mkHead (iKey 1) 1 (ents [2, 3]) 0) (mkHead (iKey 1) 1 (ents [1]) 0) = (evSplit, true) := by
 rw [split_made.eq, if_neg]
 ·rfl
 ·rw [ents_len]; exact split_ne
theorem split_check : checkE iPubs evSplit = true :=
 split_made.check iPubs (by show (1 : Int) < (3 : Nat); decide) rfl (by rw [ents_len]; exact split_ne)
theorem split_formed : formedE evSplit = true := split_made.formed
theorem split_srv : evSplit.old.server = 1 := split_made.srv
def evSmall : Evidence := evOf (iKey 1) 1 (ents [1, 2]) (ents [1, 3]) 3 1
theorem small_made : Made (iKey 1) 1 (ents [1, 2]) (ents [1, 3]) 3 1 :=
 made_of (iKey_right 1) ⟨by decide, by decide⟩ (by rw [ents_len]; decide) (by rw [ents_len, ents_len]; decide) ⟨by decide, by decide⟩ ⟨by decide, by decide⟩
theorem small_ne' : rootE ((ents [1, 2]).take (ents [1, 3]).length) ≠ rootE (ents [1, 3]) := by
 rw [ents_len, List.take_of_length_le (by rw [ents_len]; decide)]
 exact small_ne
theorem small_eq : mkEv (ents [1, 2]) (mkHead (iKey 1) 1 (ents [1, 2]) 3) (mkHead (iKey 1) 1 (ents [1, 3]) 1) = (evSmall, true) := by
 rw [small_made.eq, if_neg small_ne']
 rfl
theorem small_check : checkE iPubs evSmall = true :=
 small_made.check iPubs (by show (1 : Int) < (3 : Nat); decide) rfl small_ne'
theorem small_formed : formedE evSmall = true := small_made.formed
theorem small_srv : evSmall.old.server = 1 := small_made.srv
theorem small_clash : clash (ents [1, 2]) (ents [1, 3]) = true := by
 cases h : clash (ents [1, 2]) (ents [1, 3]) with
 | true => rfl
 | false =>
  have h1 := clash_iff.1 h 1 (by rw [ents_len]; decide) (by rw [ents_len]; decide)
  have h2 := congrArg It.Entry.time h1
  exact absurd h2 (by show ¬ (3 : Int) = 1; decide)
theorem small_take (m : Mirror) (hm : m.server = 1) (he : m.entries = ents [1, 2]) :
  take iPubs m ⟨headTo (iKey 1) 1 (ents [1, 3]) 2, 0, ((ents [1, 3]).take 2).drop 0⟩ = (mirror0, 5) := by
 have g := ents_good (s := 1) (.inl rfl) (l := [1, 3]) (by decide)
 have := take_good g m hm (frm := 0) (t := 2) (by decide) (by rw [ents_len]; decide) (by decide)
 rw [if_neg (by omega), he, if_pos] at this
 ·exact this
 ·rw [List.drop_zero, List.drop_zero, List.take_of_length_le (by rw [ents_len]; decide)]
  exact small_clash
theorem small_head : headTo (iKey 1) 1 (ents [1, 2, 4]) 2 = mkHead (iKey 1) 1 (ents [1, 2]) 3 := rfl
theorem small_head' : headTo (iKey 1) 1 (ents [1, 3]) 2 = mkHead (iKey 1) 1 (ents [1, 3]) 1 := rfl
end Go.Proofs.YtleljbiejeofgaaGreatDoor.Sl
end
section
namespace Go.Proofs.YtleljbiejeofgaaGreatDoor
open Go Go.RowKit Dm
def bl : Value → Option Nat
  | .slice (some a) _ (_ + 1) => some a.block
  | _ => none
theorem bl_lit (b n c : Nat) (hc : 0 < c) : bl (.slice (some ⟨b, 0, none⟩) n c) = some b := by
  obtain ⟨c, rfl⟩ := Nat.exists_eq_succ_of_ne_zero (Nat.ne_of_gt hc)
  rfl
theorem bl_none (A : Option Addr) (n : Nat) : bl (.slice A n 0) = none := by cases A <;> rfl
def Fil (w : World) (v : Value) (l : List UInt8) : Prop :=
  (∃ A, v = .slice A 0 0 ∧ l = []) ∨ ∃ b cap, v = .slice (some ⟨b, 0, none⟩) l.length cap ∧ 0 < cap ∧ Own w 0 5 1 v (l.map w8)
section
variable {w w' : World} {v : Value} {l : List UInt8}
theorem Fil.nil (w : World) : Fil w (.slice none 0 0) [] := .inl ⟨none, rfl, rfl⟩
theorem Fil.block (h : Fil w v l) : ∀ b, bl v = some b → b < w.heap.size := by
  rcases h with ⟨A, rfl, _⟩ | ⟨b, cap, rfl, hc, hown⟩
  · intro b h; rw [bl_none] at h; cases h
  · intro b' h
    rw [bl_lit _ _ _ hc] at h
    cases h
    exact (hown.block b rfl).2
theorem Fil.keep (h : Fil w v l) (hk : ∀ b, bl v = some b → w'.heap[b]? = w.heap[b]?) : Fil w' v l := by
  rcases h with h | ⟨b, cap, rfl, hc, hown⟩
  · exact .inl h
  · refine .inr ⟨b, cap, rfl, hc, hown.keep fun g hg => ?_⟩
    have : b = g := by simpa [Value.ownBlock] using hg
    subst this
    exact hk _ (bl_lit _ _ _ hc)
theorem Fil.rd (h : Fil w v l) : Rd w w.heap.size 1 v (l.map w8) := by
  rcases h with ⟨A, rfl, rfl⟩ | ⟨b, cap, rfl, hc, hown⟩
  · exact ⟨A, 0, 0, rfl, Nat.le_refl _, by simp, fun h => absurd h (by omega)⟩
  · exact hown.rd
theorem Fil.form (h : Fil w v l) : ∃ A c, v = .slice A l.length c ∧ l.length ≤ c := by
  obtain ⟨A, c, h1, h2⟩ := h.rd.len
  rw [List.length_map] at h1 h2
  exact ⟨A, c, h1, h2⟩
theorem Fil.take {A : Option Addr} {c : Nat} (h : Fil w (.slice A l.length c) l) (n : Nat) (hn : n ≤ l.length) : Fil w (.slice A n c) (l.take n) := by
  rcases h with ⟨A', h, rfl⟩ | ⟨b, cap, h, hc, hown⟩
  · simp only [Value.slice.injEq] at h
    obtain ⟨rfl, _, rfl⟩ := h
    have : n = 0 := by simpa using hn
    subst this
    exact .inl ⟨A, rfl, by simp⟩
  · simp only [Value.slice.injEq] at h
    obtain ⟨rfl, _, rfl⟩ := h
    refine .inr ⟨b, c, by rw [List.length_take, Nat.min_eq_left hn], hc, ?_⟩
    rcases hown with ⟨h, _⟩ | ⟨g, n', cap, cur, fr, h, hb, hg, hfr, hnc, hcm, hcs, hl, htake⟩
    · cases h
    · simp only [Value.slice.injEq, Option.some.injEq, Addr.mk.injEq] at h
      obtain ⟨⟨rfl, _⟩, rfl, rfl⟩ := h
      refine .inr ⟨b, n, c, cur, fr, rfl, hb, hg, hfr, by omega, hcm, hcs, by simp; omega, ?_⟩
      rw [Nat.mul_one] at htake ⊢
      rw [List.map_take, ← htake, List.take_take, Nat.min_eq_left hn]
theorem Fil.bl_take (A : Option Addr) (n m c : Nat) : bl (.slice A n c) = bl (.slice A m c) := by
  cases A <;> cases c <;> rfl
end
def Kp (w : World) (v : Value) (ks : List Int) : Prop :=
  ∃ A c, v = .slice A ks.length c ∧ ks.length ≤ c ∧ (0 < ks.length → ∃ b o, A = some ⟨b, o, none⟩ ∧ ∀ j, j < ks.length → w.cell? ⟨b, o + j, none⟩ = some (.int .i64 (ks.getD j 0)))
theorem Kp.nil (w : World) : Kp w (.slice none 0 0) [] := ⟨none, 0, rfl, Nat.le_refl _, fun h => absurd h (by simp)⟩
theorem Kp.keep {w w' : World} {v : Value} {ks : List Int} (h : Kp w v ks) (hk : ∀ b, bl v = some b → w'.heap[b]? = w.heap[b]?) : Kp w' v ks := by
  obtain ⟨A, c, rfl, hc, hr⟩ := h
  refine ⟨A, c, rfl, hc, fun h0 => ?_⟩
  obtain ⟨b, o, rfl, h⟩ := hr h0
  refine ⟨b, o, rfl, fun j hj => ?_⟩
  have hb : bl (.slice (some ⟨b, o, none⟩) ks.length c) = some b := by
    obtain ⟨c', rfl⟩ := Nat.exists_eq_succ_of_ne_zero (show c ≠ 0 by omega)
    rfl
  rw [World.cell?_of_block (hk b hb)]
  exact h j hj
theorem Kp.block {w : World} {v : Value} {ks : List Int} (h : Kp w v ks) (h0 : 0 < ks.length) : ∃ b, bl v = some b ∧ b < w.heap.size := by
  obtain ⟨A, c, rfl, hc, hr⟩ := h
  obtain ⟨b, o, rfl, h⟩ := hr h0
  have := World.block_lt_of_cell? w _ (h 0 h0)
  refine ⟨b, ?_, this⟩
  obtain ⟨c', rfl⟩ := Nat.exists_eq_succ_of_ne_zero (show c ≠ 0 by omega)
  rfl
def cellD (vs : Nat → Value) (kv : Value) (d : Dk) (j : Nat) : Value :=
  if j < 16 then (if j % 2 = 0 then vs (j / 2) else .int .i64 ((d.fs (j / 2)).dur : Int)) else
  if j = 16 then .bool d.down else if j = 17 then .int .i64 (d.lost : Int) else if j = 18 then .int .i64 (d.armed : Int) else kv
theorem cellD_data (vs : Nat → Value) (kv : Value) (d : Dk) (i : Nat) (h : i < 8) : cellD vs kv d (i * 2) = vs i := by
  unfold cellD
  rw [if_pos (by omega), if_pos (by omega), show i * 2 / 2 = i from by omega]
theorem cellD_dur (vs : Nat → Value) (kv : Value) (d : Dk) (i : Nat) (h : i < 8) : cellD vs kv d (i * 2 + 1) = .int .i64 ((d.fs i).dur : Int) := by
  unfold cellD
  rw [if_pos (by omega), if_neg (by omega), show (i * 2 + 1) / 2 = i from by omega]
structure Rows3 (w : World) (S : Nat → Prop) (g : Nat) (vs : Nat → Value) (kv : Value) (d : Dk) : Prop where
  head : S g
  fil : ∀ i, i < 8 → Fil w (vs i) (d.fs i).data
  own : ∀ i b, i < 8 → bl (vs i) = some b → S b ∧ b ≠ g
  apart : ∀ i j b, i < 8 → j < 8 → i ≠ j → bl (vs i) = some b → bl (vs j) ≠ some b
  kp : Kp w kv d.keep
  kown : ∀ b, bl kv = some b → S b ∧ b ≠ g
  kapart : ∀ i b, i < 8 → bl (vs i) = some b → bl kv ≠ some b
  klt : ∀ b, bl kv = some b → b < w.heap.size
def DRep (w : World) (S : Nat → Prop) (g : Nat) (d : Dk) : Prop :=
  ∃ vs kv, w.rowIs g 76 20 (cellD vs kv d) ∧ Rows3 w S g vs kv d
end Go.Proofs.YtleljbiejeofgaaGreatDoor
namespace Go.Proofs.YtleljbiejeofgaaGreatDoor
open Go Go.RowKit Dm
structure Fr (S : Nat → Prop) (w w' : World) : Prop where
  os : w'.os = w.os
  tape : w'.tape = w.tape
  output : w'.output = w.output
  size : w.heap.size ≤ w'.heap.size
  block : ∀ b, b < w.heap.size → ¬ S b → w'.heap[b]? = w.heap[b]?
section
variable {S : Nat → Prop} {w w' w'' : World} {g : Nat} {d : Dk}
theorem Fr.refl (S : Nat → Prop) (w : World) : Fr S w w := ⟨rfl, rfl, rfl, Nat.le_refl _, fun _ _ _ => rfl⟩
theorem Fr.trans (h : Fr S w w') (h' : Fr S w' w'') : Fr S w w'' :=
  ⟨h'.os.trans h.os, h'.tape.trans h.tape, h'.output.trans h.output, Nat.le_trans h.size h'.size, fun b hb hS => (h'.block b (Nat.lt_of_lt_of_le hb h.size) hS).trans (h.block b hb hS)⟩
theorem Fr.drewN (w : World) (n : Nat) : Fr S w (w.drewN n) := ⟨rfl, rfl, rfl, Nat.le_refl _, fun _ _ _ => rfl⟩
theorem Fr.setCell {p : Addr} (hp : S p.block) (u : Value) : Fr S w (w.setCell p u) :=
  ⟨rfl, rfl, rfl, by simp, fun b _ hS => Below.heap_setCell w p u b (fun e => hS (by rw [e]; exact hp))⟩
theorem Fr.alloc (w : World) (o : Obj) : Fr S w (w.alloc o) := ⟨rfl, rfl, rfl, by simp, fun b hb _ => heap_alloc_old w o hb⟩
theorem Fr.grown {row : Option Nat} (h : w.grownBy w' row) (hr : ∀ b, row = some b → S b) : Fr S w w' :=
  ⟨h.os, h.tape, h.output, h.size, fun b hb hS => h.block b hb (fun e => hS (hr b e.symm))⟩
theorem Fr.more {S' : Nat → Prop} (h : Fr S w w') (hS : ∀ b, S b → S' b) : Fr S' w w' := ⟨h.os, h.tape, h.output, h.size, fun b hb hn => h.block b hb (fun hs => hn (hS b hs))⟩
theorem DRep.more {S' : Nat → Prop} (h : DRep w S g d) (hS : ∀ b, S b → S' b) : DRep w S' g d := by
  obtain ⟨vs, kv, hr, h⟩ := h
  exact ⟨vs, kv, hr, hS _ h.head, h.fil, fun i b hi hb => ⟨hS _ (h.own i b hi hb).1, (h.own i b hi hb).2⟩, h.apart, h.kp, fun b hb => ⟨hS _ (h.kown b hb).1, (h.kown b hb).2⟩, h.kapart, h.klt⟩
theorem same_lt {w w' : World} {b : Nat} (h : w'.heap[b]? = w.heap[b]?) (hb : b < w.heap.size) : b < w'.heap.size := by
  rw [Array.getElem?_eq_getElem hb] at h
  exact (Array.getElem?_eq_some_iff.1 h).1
theorem DRep.keep (h : DRep w S g d) (hk : ∀ b, S b → b < w.heap.size → w'.heap[b]? = w.heap[b]?) : DRep w' S g d := by
  obtain ⟨vs, kv, hr, h⟩ := h
  exact ⟨vs, kv, hr.of_block (hk _ h.head hr.lt), h.head, fun i hi => (h.fil i hi).keep fun b hb => hk b (h.own i b hi hb).1 ((h.fil i hi).block b hb), h.own, h.apart, h.kp.keep fun b hb => hk b (h.kown b hb).1 (h.klt b hb), h.kown, h.kapart, fun b hb => same_lt (hk b (h.kown b hb).1 (h.klt b hb)) (h.klt b hb)⟩
theorem DRep.drewN (h : DRep w S g d) (n : Nat) : DRep (w.drewN n) S g d := h.keep fun _ _ _ => rfl
theorem DRep.alloc (h : DRep w S g d) (o : Obj) : DRep (w.alloc o) S g d := h.keep fun _ _ hb => heap_alloc_old w o hb
end
end Go.Proofs.YtleljbiejeofgaaGreatDoor
namespace Go.Proofs.YtleljbiejeofgaaGreatDoor
open Go Go.RowKit Dm Go.Lib
theorem strCells_w8 (s : ByteArray) : strCells s = s.data.toList.map w8 := rfl
theorem Fil.append {P : Program} {w : World} {v : Value} {l : List UInt8} (h : Fil w v l) (t u ty : TypeId) (ht : P.underlying t = some (.slice 5)) (hu : P.underlying u = some .string)
    (hE : ElemOk P t 5 1 1) (hz : ∀ i, P.info? 5 = some i → i.zero = some (.int .u8 0)) (s : ByteArray) (hb : l.length + s.size ≤ 140737488355328) :
    ∃ v' w', (Builtin.append_ #[t, u] ty #[v, .string s]).run P w = .ok v' w' ∧ Fil w' v' (l ++ s.data.toList) ∧ w.grownBy w' (bl v) ∧ (bl v' = bl v ∨ bl v' = some w.heap.size) := by
  obtain ⟨_, _, i, z, hi, hz', hs1, hby, hzs⟩ := hE
  have hz := hz i hi
  have hsz : s.data.toList.length = s.size := by simp
  have grow : ∀ (xs : List UInt8) (old : Nat), xs.length = l.length → xs = l → 0 < s.size → Fil (w.drew.alloc (.cells ((xs.map w8).toArray ++ (strCells s).toArray ++ Builtin.zeroCells (Value.int .u8 0).cells (grownCap w (l.length + s.size) old 5 - (l.length + s.size))) 5))
      (.slice (some ⟨w.heap.size, 0, none⟩) (l.length + s.size) (grownCap w (l.length + s.size) old 5)) (l ++ s.data.toList) := by
    intro xs old hxl hx h0
    subst hx
    have hge := grownCap_ge w (xs.length + s.size) old 5
    have hcm : grownCap w (xs.length + s.size) old 5 ≤ maxLen := grownCap_le_maxLen w (xs.length + s.size) old 5 (by simp only [maxLen]; omega)
    have hlen : (xs ++ s.data.toList).length = xs.length + s.size := by rw [List.length_append, hsz]
    refine .inr ⟨w.heap.size, _, by rw [hlen], by omega, .inr ⟨w.heap.size, _, _, _, (0, 0), rfl, Nat.zero_le _, heap_alloc_new w.drew _, .inl (by simp), hge, hcm, ?_, by rw [List.length_map, hlen, Nat.mul_one], ?_⟩⟩
    · have hz1 : (Value.int IntKind.u8 0).cells.size = 1 := rfl
      simp only [Array.size_append, List.size_toArray, size_zeroCells, hz1, List.length_map, strCells_length]
      omega
    · simp only [Array.toList_append, List.append_assoc, strCells_w8]
      rw [← List.append_assoc, ← List.map_append, Nat.mul_one, ← hlen, ← List.length_map (f := w8)]
      exact List.take_left
  have gr : ∀ o, w.grownBy (w.drew.alloc o) (bl v) := fun o => ⟨rfl, rfl, rfl, by simp, fun k hk _ => heap_alloc_old w.drew _ hk⟩
  rcases Nat.eq_zero_or_pos s.size with h0 | h0
  · have hs0 : s.data.toList = [] := List.eq_nil_of_length_eq_zero (by omega)
    have hsc : strCells s = [] := by rw [strCells_w8, hs0]; rfl
    have hf := run_firstCells_string (P := P) w 1 s
    rw [hsc] at hf
    refine ⟨v, w, ?_, by rw [hs0, List.append_nil]; exact h, ⟨rfl, rfl, rfl, Nat.le_refl _, fun _ _ _ => rfl⟩, .inl rfl⟩
    rw [h0] at hf
    obtain ⟨A, c, rfl, hc⟩ := h.form
    cases A <;> simp [Builtin.append_, run_underlying ht, run_underlying hu, sizeOf, typeInfo, hi, hs1, Builtin.lenOf, h0, hc, hf, storeCells]
  · rcases h with ⟨A, rfl, rfl⟩ | ⟨b, cap, rfl, hc, hown⟩
    · rcases A with _ | a
      · have hr := run_append_nil_string (P := P) w t u ty 5 i (.int .u8 0) ht hu hi hz s h0 (by simp at hb; omega) (by rw [hby]; simp at hb; omega)
        have hg := grow [] 0 rfl rfl h0
        simp only [List.length_nil, Nat.zero_add] at hg hr
        refine ⟨_, _, hr, ?_, gr _, .inr (bl_lit _ _ _ ?_)⟩
        · have e : (s.data.map (fun b => Value.int .u8 (b.toNat : Int))) = (([] : List UInt8).map w8).toArray ++ (strCells s).toArray := by
            apply Array.ext'
            simp [strCells]
          rw [e]
          exact hg
        · have := grownCap_ge w s.size 0 5; omega
      · have hr := run_append_grow_string (P := P) w t u ty 5 i (.int .u8 0) ht hu hi hz a 0 0 [] (by simp) (fun j v h => by simp at h) s (by omega) (by simp at hb; omega) (by rw [hby]; exact growslice_fits (by omega) (by simp at hb; omega))
        have hg := grow [] 0 rfl rfl h0
        simp only [List.length_nil, Nat.zero_add] at hg hr
        refine ⟨_, _, hr, hg, gr _, .inr (bl_lit _ _ _ ?_)⟩
        have := grownCap_ge w s.size 0 5; omega
    · have hown0 := hown
      rcases hown with ⟨h, _⟩ | ⟨g, n, cap', cur, fr, h, hbg, hg, hfr, hnc, hcm, hcs, hl, htake⟩
      · cases h
      · simp only [Value.slice.injEq, Option.some.injEq, Addr.mk.injEq] at h
        obtain ⟨⟨rfl, _⟩, rfl, rfl⟩ := h
        simp only [Nat.mul_one] at hcs htake
        have hlen : (l ++ s.data.toList).length = l.length + s.size := by rw [List.length_append, hsz]
        by_cases hroom : l.length + s.size ≤ cap
        · have hf := run_firstCells_string (P := P) w 1 s
          have hst := storeCells_fr (P := P) b l.length 5 fr (strCells s) 0 cur w hg hfr (by rw [strCells_length]; omega) (strCells_oneCell s)
          simp only [Nat.add_zero, strCells_length] at hst
          have hr : (Builtin.append_ #[t, u] ty #[.slice (some ⟨b, 0, none⟩) l.length cap, .string s]).run P w =
              .ok (.slice (some ⟨b, 0, none⟩) (l.length + s.size) cap) (w.setRow b (cur.toList.take l.length ++ strCells s ++ cur.toList.drop (l.length + s.size)).toArray) := by
            simp [Builtin.append_, run_underlying ht, run_underlying hu, sizeOf, typeInfo, hi, hs1, Builtin.lenOf, hroom, hf, Addr.add_lit, hst]
          refine ⟨_, _, hr, .inr ⟨b, cap, by rw [hlen], hc, .inr ⟨b, _, cap, _, fr, rfl, Nat.zero_le _, setRow_heap w b cur _ _ _ hg, ?_, hroom, hcm, ?_, by rw [List.length_map, hlen, Nat.mul_one], ?_⟩⟩, ?_, .inl ?_⟩
          · rcases hfr with h | h
            · exact .inl h
            · refine .inr ?_
              simp only [List.size_toArray, List.length_append, List.length_take, List.length_drop, Array.length_toList, strCells_length]
              omega
          · simp only [List.size_toArray, List.length_append, List.length_take, List.length_drop, Array.length_toList, strCells_length]
            omega
          · rw [htake, strCells_w8, ← List.map_append, Nat.mul_one, ← hlen, ← List.length_map (f := w8)]
            exact List.take_left
          · rw [bl_lit _ _ _ hc]
            exact ⟨rfl, rfl, rfl, by simp, fun k _ hk => setRow_other w b k _ (fun e => hk (by rw [e]))⟩
          · rw [bl_lit _ _ _ hc, bl_lit _ _ _ hc]
        · have holds : ∀ j u, (l.map w8)[j]? = some u → w.cell? ((⟨b, 0, none⟩ : Addr).add j) = some u := by
            intro j u hu
            rw [Addr.add_lit]
            simp only [Nat.zero_add]
            rw [cell_of_row w b j cur 5 fr hg]
            rw [← htake, List.getElem?_take] at hu
            split at hu
            · simpa using hu
            · cases hu
          have hr := run_append_grow_string (P := P) w t u ty 5 i (.int .u8 0) ht hu hi hz ⟨b, 0, none⟩ l.length cap (l.map w8) (by rw [hs1]; simp) holds s (by omega) (by omega) (by rw [hby]; exact growslice_fits (by omega) (by omega))
          have hgw := grow l cap rfl rfl h0
          refine ⟨_, _, hr, hgw, gr _, .inr (bl_lit _ _ _ ?_)⟩
          have := grownCap_ge w (l.length + s.size) cap 5; omega
end Go.Proofs.YtleljbiejeofgaaGreatDoor
end
section
namespace Go.Proofs.YtleljbiejeofgaaGreatDoor
open Go Go.RowKit Dm
section
variable {S : Nat → Prop} {w : World} {g : Nat} {d : Dk} {vs : Nat → Value} {kv : Value}
theorem Rows3.head' (h : Rows3 w S g vs kv d) (o : Nat) (u : Value) : Rows3 (w.setCell ⟨g, o, none⟩ u) S g vs kv d :=
  ⟨h.head, fun i hi => (h.fil i hi).keep fun b hb => Below.heap_setCell w _ u b (h.own i b hi hb).2, h.own, h.apart, h.kp.keep fun b hb => Below.heap_setCell w _ u b (h.kown b hb).2, h.kown, h.kapart, fun b hb => by simpa using h.klt b hb⟩
theorem DRep.setDown (h : DRep w S g d) (b : Bool) : DRep (w.setCell ⟨g, 16, none⟩ (.bool b)) S g { d with down := b } := by
  obtain ⟨vs, kv, hr, h⟩ := h
  refine ⟨vs, kv, (hr.set 16 (.bool b)).congr fun j hj => ?_, ?_⟩
  · show (if j = 16 then _ else _) = _
    by_cases h : j = 16
    · subst h; rfl
    · rw [if_neg h]; unfold cellD; simp only [if_neg h]
  · have h := h.head' 16 (.bool b)
    exact ⟨h.head, h.fil, h.own, h.apart, h.kp, h.kown, h.kapart, h.klt⟩
theorem DRep.setLost (h : DRep w S g d) (n : Nat) : DRep (w.setCell ⟨g, 17, none⟩ (.int .i64 (n : Int))) S g { d with lost := n } := by
  obtain ⟨vs, kv, hr, h⟩ := h
  refine ⟨vs, kv, (hr.set 17 (.int .i64 (n : Int))).congr fun j hj => ?_, ?_⟩
  · show (if j = 17 then _ else _) = _
    by_cases h : j = 17
    · subst h; rfl
    · rw [if_neg h]; unfold cellD; simp only [if_neg h]
  · have h := h.head' 17 (.int .i64 (n : Int))
    exact ⟨h.head, h.fil, h.own, h.apart, h.kp, h.kown, h.kapart, h.klt⟩
theorem DRep.setArmed (h : DRep w S g d) (n : Nat) : DRep (w.setCell ⟨g, 18, none⟩ (.int .i64 (n : Int))) S g { d with armed := n } := by
  obtain ⟨vs, kv, hr, h⟩ := h
  refine ⟨vs, kv, (hr.set 18 (.int .i64 (n : Int))).congr fun j hj => ?_, ?_⟩
  · show (if j = 18 then _ else _) = _
    by_cases h : j = 18
    · subst h; rfl
    · rw [if_neg h]; unfold cellD; simp only [if_neg h]
  · have h := h.head' 18 (.int .i64 (n : Int))
    exact ⟨h.head, h.fil, h.own, h.apart, h.kp, h.kown, h.kapart, h.klt⟩
theorem DRep.setKeep (h : DRep w S g d) {kv' : Value} {ks : List Int} (hk : Kp w kv' ks) (hlt : ∀ b, bl kv' = some b → b < w.heap.size) (hb : ∀ b, bl kv' = some b → S b ∧ b ≠ g ∧ ∀ vs kv, Rows3 w S g vs kv d → ∀ i, i < 8 → bl (vs i) ≠ some b) : DRep (w.setCell ⟨g, 19, none⟩ kv') S g { d with keep := ks } := by
  obtain ⟨vs, kv, hr, h⟩ := h
  refine ⟨vs, kv', (hr.set 19 kv').congr fun j hj => ?_, ?_⟩
  · show (if j = 19 then _ else _) = _
    by_cases h : j = 19
    · subst h; rfl
    · rw [if_neg h]
      unfold cellD
      split
      · rfl
      split
      · rfl
      split
      · rfl
      split
      · rfl
      · omega
  · have h' := h.head' 19 kv'
    exact ⟨h'.head, h'.fil, h'.own, h'.apart, hk.keep fun b hbb => Below.heap_setCell w _ kv' b (hb b hbb).2.1, fun b hbb => ⟨(hb b hbb).1, (hb b hbb).2.1⟩, fun i b hi hv hkv => (hb b hkv).2.2 vs kv h i hi hv, fun b hbb => by simpa using hlt b hbb⟩
theorem DRep.setKeepNil (h : DRep w S g d) : DRep (w.setCell ⟨g, 19, none⟩ (.slice none 0 0)) S g { d with keep := [] } :=
  h.setKeep (Kp.nil w) (fun b hb => by cases hb) fun b hb => by cases hb
theorem DRep.setDur (h : DRep w S g d) (i : Nat) (hi : i < 8) (n : Nat) : DRep (w.setCell ⟨g, i * 2 + 1, none⟩ (.int .i64 (n : Int))) S g { d with fs := upd d.fs i ⟨(d.fs i).data, n⟩ } := by
  obtain ⟨vs, kv, hr, h⟩ := h
  refine ⟨vs, kv, (hr.set (i * 2 + 1) (.int .i64 (n : Int))).congr fun j hj => ?_, ?_⟩
  · show (if j = i * 2 + 1 then _ else _) = _
    by_cases h : j = i * 2 + 1
    · subst h
      rw [if_pos rfl, cellD_dur _ _ _ _ hi]
      simp only [upd_same]
    · rw [if_neg h]
      unfold cellD
      split
      · split
        · rfl
        · have : j / 2 ≠ i := by omega
          simp only [upd_ne _ this]
      · rfl
  · have h := h.head' (i * 2 + 1) (.int .i64 (n : Int))
    refine ⟨h.head, fun k hk => ?_, h.own, h.apart, h.kp, h.kown, h.kapart, h.klt⟩
    have := h.fil k hk
    by_cases e : k = i
    · subst e; simp only [upd_same]; exact this
    · simp only [upd_ne _ e]; exact this
theorem DRep.setData2 {w0 : World} (hr : w.rowIs g 76 20 (cellD vs kv d)) (h : Rows3 w0 S g vs kv d) (i : Nat) (hi : i < 8) (hfo : ∀ k, k < 8 → k ≠ i → Fil w (vs k) (d.fs k).data) (hkp : Kp w kv d.keep) (hklt : ∀ b, bl kv = some b → b < w.heap.size) {v : Value} {l : List UInt8} (hf : Fil w v l)
    (hv : ∀ b, bl v = some b → bl (vs i) = some b ∨ (S b ∧ b ≠ g ∧ (∀ j, j < 8 → bl (vs j) ≠ some b) ∧ bl kv ≠ some b)) : DRep (w.setCell ⟨g, i * 2, none⟩ v) S g { d with fs := upd d.fs i ⟨l, (d.fs i).dur⟩ } := by
  refine ⟨fun k => if k = i then v else vs k, kv, (hr.set (i * 2) v).congr fun j hj => ?_, ?_⟩
  · show (if j = i * 2 then _ else _) = _
    by_cases e : j = i * 2
    · subst e
      rw [if_pos rfl, cellD_data _ _ _ _ hi, if_pos rfl]
    · rw [if_neg e]
      unfold cellD
      split
      · split
        · exact (if_neg (show j / 2 ≠ i from by omega)).symm
        · by_cases e2 : j / 2 = i
          · rw [e2]; simp only [upd_same]
          · simp only [upd_ne _ e2]
      · rfl
  · have hvg : ∀ b, bl v = some b → b ≠ g := fun b hb => by
      rcases hv b hb with h1 | h1
      · exact (h.own i b hi h1).2
      · exact h1.2.1
    refine ⟨h.head, fun k hk => ?_, fun k b hk hb => ?_, fun j k b hj hk hjk hb hb' => ?_, hkp.keep fun b hb => Below.heap_setCell w _ v b (h.kown b hb).2, h.kown, fun k b hk hb hkb => ?_, fun b hb => by simpa using hklt b hb⟩
    · by_cases e : k = i
      · subst e
        simp only [if_pos, upd_same]
        exact hf.keep fun b hb => Below.heap_setCell w _ v b (hvg b hb)
      · simp only [if_neg e, upd_ne _ e]
        exact (hfo k hk e).keep fun b hb => Below.heap_setCell w _ v b (h.own k b hk hb).2
    · by_cases e : k = i
      · subst e
        simp only [if_pos] at hb
        rcases hv b hb with h1 | h1
        · exact h.own k b hk h1
        · exact ⟨h1.1, h1.2.1⟩
      · simp only [if_neg e] at hb
        exact h.own k b hk hb
    · by_cases e : j = i
      · subst e
        have e2 : k ≠ j := fun h => hjk h.symm
        simp only [if_pos, if_neg e2] at hb hb'
        rcases hv b hb with h1 | h1
        · exact h.apart j k b hj hk hjk h1 hb'
        · exact h1.2.2.1 k hk hb'
      · by_cases e2 : k = i
        · subst e2
          simp only [if_pos, if_neg e] at hb hb'
          rcases hv b hb' with h1 | h1
          · exact h.apart j k b hj hk hjk hb h1
          · exact h1.2.2.1 j hj hb
        · simp only [if_neg e, if_neg e2] at hb hb'
          exact h.apart j k b hj hk hjk hb hb'
    · by_cases e : k = i
      · subst e
        simp only [if_pos] at hb
        rcases hv b hb with h1 | h1
        · exact h.kapart k b hk h1 hkb
        · exact h1.2.2.2 hkb
      · simp only [if_neg e] at hb
        exact h.kapart k b hk hb hkb
theorem DRep.setData (hr : w.rowIs g 76 20 (cellD vs kv d)) (h : Rows3 w S g vs kv d) (i : Nat) (hi : i < 8) {v : Value} {l : List UInt8} (hf : Fil w v l)
    (hv : ∀ b, bl v = some b → bl (vs i) = some b ∨ (S b ∧ b ≠ g ∧ (∀ j, j < 8 → bl (vs j) ≠ some b) ∧ bl kv ≠ some b)) : DRep (w.setCell ⟨g, i * 2, none⟩ v) S g { d with fs := upd d.fs i ⟨l, (d.fs i).dur⟩ } :=
  DRep.setData2 hr h i hi (fun k hk _ => h.fil k hk) h.kp h.klt hf hv
theorem DRep.setTake (h : DRep w S g d) (i : Nat) (hi : i < 8) (n : Nat) (hn : n ≤ (d.fs i).data.length) :
    ∃ A c, w.cell? ⟨g, i * 2, none⟩ = some (.slice A (d.fs i).data.length c) ∧ (d.fs i).data.length ≤ c ∧ DRep (w.setCell ⟨g, i * 2, none⟩ (.slice A n c)) S g { d with fs := upd d.fs i ⟨(d.fs i).data.take n, (d.fs i).dur⟩ } := by
  obtain ⟨vs, kv, hr, h⟩ := h
  obtain ⟨A, c, hv, hc⟩ := (h.fil i hi).form
  refine ⟨A, c, ?_, hc, DRep.setData hr h i hi ?_ ?_⟩
  · rw [hr.cell (by omega), cellD_data _ _ _ _ hi, hv]
  · have := h.fil i hi
    rw [hv] at this
    exact this.take n hn
  · intro b hb
    left
    rw [hv, Fil.bl_take A _ n c]
    exact hb
theorem DRep.appended {w' : World} (hr : w.rowIs g 76 20 (cellD vs kv d)) (h : Rows3 w S g vs kv d) (i : Nat) (hi : i < 8) {v : Value} {l : List UInt8} (hf : Fil w' v l) (hg : w.grownBy w' (bl (vs i)))
    (hv : bl v = bl (vs i) ∨ bl v = some w.heap.size) (hS : S w.heap.size) :
    w'.cell? ⟨g, i * 2, none⟩ = some (vs i) ∧ w'.frozen? ⟨g, i * 2, none⟩ = false ∧ DRep (w'.setCell ⟨g, i * 2, none⟩ v) S g { d with fs := upd d.fs i ⟨l, (d.fs i).dur⟩ } ∧ Fr S w (w'.setCell ⟨g, i * 2, none⟩ v) := by
  have hgl := hr.lt
  have hkb := h.klt
  have hr' : w'.rowIs g 76 20 (cellD vs kv d) := hr.of_block (hg.block g hgl fun e => (h.own i g hi e.symm).2 rfl)
  refine ⟨by rw [hr'.cell (by omega), cellD_data _ _ _ _ hi], hr'.frozen _, ?_, ?_⟩
  · refine DRep.setData2 hr' h i hi (fun k hk hne => (h.fil k hk).keep fun b hb => hg.block b ((h.fil k hk).block b hb) fun e => h.apart i k b hi hk (fun h => hne h.symm) e.symm hb) (h.kp.keep fun b hb => hg.block b (hkb b hb) fun e => h.kapart i b hi e.symm hb) (fun b hb => Nat.lt_of_lt_of_le (hkb b hb) hg.size) hf fun b hb => ?_
    rcases hv with hv | hv
    · left; rw [← hv]; exact hb
    · right
      have : b = w.heap.size := by rw [hv] at hb; exact (Option.some.inj hb).symm
      subst this
      refine ⟨hS, by omega, fun j hj hb => ?_, fun hb => ?_⟩
      · have := (h.fil j hj).block _ hb; omega
      · have := hkb _ hb; omega
  · exact (Fr.grown hg fun b hb => (h.own i b hi hb).1).trans (Fr.setCell (p := ⟨g, i * 2, none⟩) h.head _)
end
end Go.Proofs.YtleljbiejeofgaaGreatDoor
end
section
namespace Go.Proofs.YtleljbiejeofgaaGreatDoor
open Go.RowKit Dm
theorem known_any (f : Int) (w : World) : Calls Tryz.prog 142 #[.int .i64 f] w fun e w' => e = .returned (.bool (kn f)) ∧ w = w' := by
  have e1 : 0 ≤ f → kn f = decide (f < 8) := fun h => by unfold kn; rw [decide_eq_true h]; rfl
  have e2 : f < 0 → kn f = false := fun h => by unfold kn; rw [decide_eq_false (show ¬ 0 ≤ f from by omega)]; rfl
  have E1 := Veil.mk e1
  have E2 := Veil.mk e2
  clear e1 e2
  by_cases h1 : 0 ≤ f
  · go_enter Tryz.func142, Tryz.ntmps142
    go_wp2
    go_ret
    exact ⟨by rw [E1.out h1]; rfl, rfl⟩
  · have h2 : f < 0 := by omega
    go_enter Tryz.func142, Tryz.ntmps142
    go_wp2
    go_ret
    exact ⟨by rw [E2.out h2]; rfl, rfl⟩
section
variable {S : Nat → Prop} {w : World} {g : Nat} {d : Dk}
theorem DRep.cDown (h : DRep w S g d) : w.cell? ⟨g, 16, none⟩ = some (.bool d.down) := by
  obtain ⟨vs, kv, hr, h⟩ := h; exact hr.cell (i := 16) (by omega)
theorem DRep.cLost (h : DRep w S g d) : w.cell? ⟨g, 17, none⟩ = some (.int .i64 (d.lost : Int)) := by
  obtain ⟨vs, kv, hr, h⟩ := h; exact hr.cell (i := 17) (by omega)
theorem DRep.cArmed (h : DRep w S g d) : w.cell? ⟨g, 18, none⟩ = some (.int .i64 (d.armed : Int)) := by
  obtain ⟨vs, kv, hr, h⟩ := h; exact hr.cell (i := 18) (by omega)
theorem DRep.cKeep (h : DRep w S g d) : ∃ kv, w.cell? ⟨g, 19, none⟩ = some kv ∧ Kp w kv d.keep ∧ ∀ b, bl kv = some b → b ≠ g := by
  obtain ⟨vs, kv, hr, h⟩ := h; exact ⟨kv, hr.cell (i := 19) (by omega), h.kp, fun b hb => (h.kown b hb).2⟩
theorem DRep.cDur (h : DRep w S g d) (i : Nat) (hi : i < 8) : w.cell? ⟨g, i * 2 + 1, none⟩ = some (.int .i64 ((d.fs i).dur : Int)) := by
  obtain ⟨vs, kv, hr, h⟩ := h; rw [hr.cell (by omega), cellD_dur _ _ _ _ hi]
theorem DRep.cData (h : DRep w S g d) (i : Nat) (hi : i < 8) : ∃ A c, w.cell? ⟨g, i * 2, none⟩ = some (.slice A (d.fs i).data.length c) ∧ (d.fs i).data.length ≤ c ∧ Fil w (.slice A (d.fs i).data.length c) (d.fs i).data := by
  obtain ⟨vs, kv, hr, h⟩ := h
  obtain ⟨A, c, hv, hc⟩ := (h.fil i hi).form
  refine ⟨A, c, ?_, hc, ?_⟩
  · rw [hr.cell (by omega), cellD_data _ _ _ _ hi, hv]
  · rw [← hv]; exact h.fil i hi
theorem DRep.free (h : DRep w S g d) (j : Nat) : w.frozen? ⟨g, j, none⟩ = false := by
  obtain ⟨vs, kv, hr, h⟩ := h; exact hr.frozen j
theorem DRep.at' (h : DRep w S g d) : S g := by
  obtain ⟨vs, kv, hr, h⟩ := h; exact h.head
theorem DRep.lt (h : DRep w S g d) : g < w.heap.size := by
  obtain ⟨vs, kv, hr, h⟩ := h; exact hr.lt
theorem down_any (h : DRep w S g d) : Calls Tryz.prog 30 #[.pointer (some ⟨g, 0, none⟩)] w fun e w' => e = .returned (.bool d.down) ∧ w = w' := by
  have c16 := h.cDown
  clear h
  go_enter Tryz.func30, Tryz.ntmps30
  go_wp2
  go_ret
  exact ⟨rfl, rfl⟩
theorem kn_form {f : Int} (h : kn f = true) : ∃ n : Nat, f = (n : Int) ∧ n < 8 := by
  have hf : 0 ≤ f ∧ f < 8 := by simpa [kn] using h
  exact ⟨f.toNat, by omega, by omega⟩
theorem size_any (h : DRep w S g d) (f : Int) : Calls Tryz.prog 148 #[.pointer (some ⟨g, 0, none⟩), .int .i64 f] w fun e w' => e = .returned (.int .i64 (size d f : Int)) ∧ w = w' := by
  rcases hk : kn f
  · have hs : size d f = 0 := by unfold size; rw [hk]; rfl
    have Hs := Veil.mk hs
    clear h hs
    go_enter Tryz.func148, Tryz.ntmps148
    go_wp2_with (go_at_call 142; refine (known_any _ _).mono ?_; rintro e w1 ⟨rfl, rfl⟩)
    go_ret
    exact ⟨by rw [Hs.out]; rfl, rfl⟩
  · obtain ⟨n, rfl, hn⟩ := kn_form hk
    have hs : size d (n : Int) = (d.fs n).data.length := by unfold size; rw [hk]; rfl
    have Hs := Veil.mk hs
    obtain ⟨A, c, cn, hc, _⟩ := h.cData n hn
    clear hs h
    go_enter Tryz.func148, Tryz.ntmps148
    go_wp2_with (go_at_call 142; refine (known_any _ _).mono ?_; rintro e w1 ⟨rfl, rfl⟩)
    go_ret
    exact ⟨by rw [Hs.out]; rfl, rfl⟩
theorem read_any (h : DRep w S g d) (f : Int) : Calls Tryz.prog 96 #[.pointer (some ⟨g, 0, none⟩), .int .i64 f] w fun e w' => e = .returned (.tuple #[.string ⟨(peek d f).1.toArray⟩, .int .i64 (peek d f).2]) ∧ w = w' := by
  have c16 := h.cDown
  rcases hd : d.down
  · rw [hd] at c16
    rcases hk : kn f
    · have hs : peek d f = ([], 1) := by unfold peek; rw [hk, hd]; rfl
      have Hs := Veil.mk hs
      clear h hs hd
      go_enter Tryz.func96, Tryz.ntmps96
      go_wp2_with (go_at_call 142; refine (known_any _ _).mono ?_; rintro e w1 ⟨rfl, rfl⟩)
      go_ret2
      exact ⟨by rw [Hs.out]; rfl, rfl⟩
    · obtain ⟨n, rfl, hn⟩ := kn_form hk
      have hs : peek d (n : Int) = ((d.fs n).data, 0) := by unfold peek; rw [hk, hd]; rfl
      have Hs := Veil.mk hs
      obtain ⟨A, c, cn, hc, hfil⟩ := h.cData n hn
      have hrun := str_run (P := Tryz.prog) w 71 9 5 Tryz.underlying71 Tryz.underlying5 Tryz.underlying9 hfil.rd
      clear hs h hd hfil
      go_enter Tryz.func96, Tryz.ntmps96
      go_wp2_with (go_at_call 142; refine (known_any _ _).mono ?_; rintro e w1 ⟨rfl, rfl⟩)
      go_ret2
      exact ⟨by rw [Hs.out]; rfl, rfl⟩
  · rw [hd] at c16
    have hs : peek d f = ([], 8) := by unfold peek; rw [hd]; rfl
    have Hs := Veil.mk hs
    clear h hs hd
    go_enter Tryz.func96, Tryz.ntmps96
    go_wp2
    go_ret2
    exact ⟨by rw [Hs.out]; rfl, rfl⟩
theorem strikes_any (h : DRep w S g d) (ho : Ok d) : Calls Tryz.prog 190 #[.pointer (some ⟨g, 0, none⟩)] w fun e w' => e = .returned (.bool (strikes d).1) ∧ DRep w' S g (strikes d).2 ∧ Fr (fun b => b = g) w w' := by
  have c18 := h.cArmed
  have f18 := h.free 18
  have hb := ho.armed
  by_cases h0 : d.armed = 0
  · have e : strikes d = (false, d) := by unfold strikes; rw [if_pos h0]
    have H : Veil (DRep w S g (strikes d).2 ∧ (strikes d).1 = false) := ⟨by rw [e]; exact ⟨h, rfl⟩⟩
    clear h e
    rw [h0] at c18
    clear h0 hb ho
    go_enter Tryz.func190, Tryz.ntmps190
    go_wp2
    go_ret
    exact ⟨by rw [H.out.2]; rfl, H.out.1, Fr.refl _ _⟩
  · obtain ⟨n, hn⟩ : ∃ n, d.armed = n + 1 := ⟨d.armed - 1, by omega⟩
    have e : strikes d = (decide (n = 0), { d with armed := n }) := by
      unfold strikes
      rw [if_neg h0, hn]
      simp
    have H1 := h.setArmed n
    have c2 := H1.cArmed
    have H : Veil (DRep (w.setCell ⟨g, 18, none⟩ (.int .i64 (n : Int))) S g (strikes d).2 ∧ (strikes d).1 = decide (n = 0) ∧ Fr (fun b => b = g) w (w.setCell ⟨g, 18, none⟩ (.int .i64 (n : Int)))) := ⟨by rw [e]; exact ⟨H1, rfl, Fr.setCell (S := fun b => b = g) (p := ⟨g, 18, none⟩) rfl _⟩⟩
    clear h e H1
    rw [hn] at c18 hb
    have hn1 : (((n + 1 : Nat) : Int)) - 1 = (n : Int) := by omega
    clear hn h0 ho
    go_enter Tryz.func190, Tryz.ntmps190
    go_wp2
    go_ret
    refine ⟨?_, H.out.1, H.out.2.2⟩
    rw [H.out.2.1]
    show Ending.returned (.bool ((n : Int) == 0)) = _
    rw [show ((n : Int) == 0) = decide (n = 0) from by by_cases h : n = 0 <;> simp [h]]
end
end Go.Proofs.YtleljbiejeofgaaGreatDoor
end
section
namespace Go.Proofs.YtleljbiejeofgaaGreatDoor
open Go.RowKit Dm
section
variable {S : Nat → Prop} {w : World} {g : Nat} {d : Dk}
theorem trunc_any (h : DRep w S g d) (i : Nat) (hi : i < 8) (n : Nat) (x : Int) (hn : n ≤ (d.fs i).data.length) (hx : x = (n : Int)) :
    Calls Tryz.prog 149 #[.pointer (some ⟨g, i * 2, none⟩), .int .i64 x] w fun e w' => e = .returned (.tuple #[]) ∧ DRep w' S g { d with fs := upd d.fs i ((d.fs i).trunc n) } ∧ Fr (fun b => b = g) w w' := by
  subst hx
  obtain ⟨A, c, cd, hc, h1⟩ := h.setTake i hi n hn
  have f0 := h.free (i * 2)
  have fr1 : Fr (fun b => b = g) w (w.setCell ⟨g, i * 2, none⟩ (.slice A n c)) := Fr.setCell (S := fun b => b = g) (p := ⟨g, i * 2, none⟩) rfl _
  have c1 := h1.cDur i hi
  simp only [upd_same] at c1
  have f1 := h1.free (i * 2 + 1)
  have h2 := h1.setDur i hi (min (d.fs i).dur n)
  simp only [upd_same] at h2
  have e2 : upd (upd d.fs i ⟨(d.fs i).data.take n, (d.fs i).dur⟩) i ⟨(d.fs i).data.take n, min (d.fs i).dur n⟩ = upd d.fs i ((d.fs i).trunc n) := by
    funext j
    unfold upd
    split <;> rfl
  rw [e2] at h2
  have H : ∀ q : Int, q = ((min (d.fs i).dur n : Nat) : Int) → DRep ((w.setCell ⟨g, i * 2, none⟩ (.slice A n c)).setCell ⟨g, i * 2 + 1, none⟩ (.int .i64 q)) S g { d with fs := upd d.fs i ((d.fs i).trunc n) } ∧ Fr (fun b => b = g) w ((w.setCell ⟨g, i * 2, none⟩ (.slice A n c)).setCell ⟨g, i * 2 + 1, none⟩ (.int .i64 q)) := by
    intro q hq
    subst hq
    exact ⟨h2, fr1.trans (Fr.setCell (S := fun b => b = g) (p := ⟨g, i * 2 + 1, none⟩) rfl _)⟩
  have H := Veil.mk H
  have hnc : (n : Int) ≤ c := by omega
  clear h h1 h2 e2 fr1
  generalize (d.fs i).dur = m at c1 H
  by_cases hm : m ≤ n
  · have hmi : ¬ (n : Int) < m := by omega
    go_enter Tryz.func149, Tryz.ntmps149
    go_wp2
    go_end0
    exact ⟨rfl, H.out _ (by omega)⟩
  · have hmi : (n : Int) < m := by omega
    go_enter Tryz.func149, Tryz.ntmps149
    go_wp2
    go_end0
    exact ⟨rfl, H.out _ (by omega)⟩
theorem Kp.keep2 {w w' : World} {v : Value} {ks : List Int} (h : Kp w v ks) (hk : ∀ b, bl v = some b → b < w.heap.size → w'.heap[b]? = w.heap[b]?) : Kp w' v ks := by
  obtain ⟨A, c, rfl, hc, hr⟩ := h
  refine ⟨A, c, rfl, hc, fun h0 => ?_⟩
  obtain ⟨b, o, rfl, h⟩ := hr h0
  refine ⟨b, o, rfl, fun j hj => ?_⟩
  have hb : bl (.slice (some ⟨b, o, none⟩) ks.length c) = some b := by
    obtain ⟨c', rfl⟩ := Nat.exists_eq_succ_of_ne_zero (show c ≠ 0 by omega)
    rfl
  have hlt := World.block_lt_of_cell? w _ (h 0 h0)
  rw [World.cell?_of_block (hk b hb hlt)]
  exact h j hj
theorem Kp.keep3 {w w' : World} {v : Value} {ks : List Int} (h : Kp w v ks) (hk : 0 < ks.length → ∀ b, bl v = some b → b < w.heap.size → w'.heap[b]? = w.heap[b]?) : Kp w' v ks := by
  by_cases h0 : 0 < ks.length
  · exact h.keep2 (hk h0)
  · obtain ⟨A, c, e, hc, _⟩ := h
    exact ⟨A, c, e, hc, fun h1 => absurd h1 h0⟩
theorem Kp.fr {w w' : World} {v : Value} {ks : List Int} {g : Nat} (h : Kp w v ks) (hb : 0 < ks.length → ∀ b, bl v = some b → b ≠ g) (hf : Fr (fun b => b = g) w w') : Kp w' v ks :=
  h.keep3 fun h0 b hv hlt => hf.block b hlt (hb h0 b hv)
def fsK (d : Dk) (ks : List Int) (k : Nat) : Nat → Fl := fun j => if j < k then (d.fs j).crash (ks.getD j 0) else d.fs j
theorem fsK_at (d : Dk) (ks : List Int) (k : Nat) : fsK d ks k k = d.fs k := if_neg (Nat.lt_irrefl k)
theorem fsK_next (d : Dk) (ks : List Int) (k : Nat) : fsK d ks (k + 1) = upd (fsK d ks k) k ((d.fs k).crash (ks.getD k 0)) := by
  funext j
  unfold fsK upd
  by_cases h : j = k
  · subst h; rw [if_pos (by omega), if_pos rfl]
  · rw [if_neg h]
    by_cases h2 : j < k
    · rw [if_pos (by omega)]; exact (if_pos h2).symm
    · rw [if_neg (by omega)]; exact (if_neg h2).symm
theorem Kp.at' {w : World} {A : Option Addr} {n c : Nat} {ks : List Int} (h : Kp w (.slice A n c) ks) (k : Nat) (hk : k < ks.length) : ∃ b o, A = some ⟨b, o, none⟩ ∧ w.cell? ⟨b, o + k, none⟩ = some (.int .i64 (ks.getD k 0)) := by
  obtain ⟨A', c', hv, hc, hr⟩ := h
  simp only [Value.slice.injEq] at hv
  obtain ⟨rfl, _, rfl⟩ := hv
  obtain ⟨b, o, rfl, h⟩ := hr (by omega)
  exact ⟨b, o, rfl, h k hk⟩
theorem DRep.congr {d' : Dk} (h : DRep w S g d) (hf : ∀ i, i < 8 → d.fs i = d'.fs i) (h1 : d.down = d'.down) (h2 : d.lost = d'.lost) (h3 : d.armed = d'.armed) (h4 : d.keep = d'.keep) : DRep w S g d' := by
  obtain ⟨vs, kv, hr, h⟩ := h
  refine ⟨vs, kv, hr.congr fun j hj => ?_, h.head, fun i hi => by rw [← hf i hi]; exact h.fil i hi, h.own, h.apart, by rw [← h4]; exact h.kp, h.kown, h.kapart, h.klt⟩
  unfold cellD
  split
  · split
    · rfl
    · rw [hf _ (by omega)]
  · rw [h1, h2, h3]
theorem DRep.cLen (h : DRep w S g d) (i : Nat) (hi : i < 8) (n : Nat) (hn : (d.fs i).data.length = n) : ∃ A c, w.cell? ⟨g, i * 2, none⟩ = some (.slice A n c) ∧ n ≤ c := by
  subst hn
  obtain ⟨A, c, h1, h2, _⟩ := h.cData i hi
  exact ⟨A, c, h1, h2⟩
theorem crash_step (d : Dk) (ks : List Int) (k : Nat) (hok : (d.fs k).Ok) :
    (upd (fsK d ks k) k ((fsK d ks k k).trunc ((d.fs k).stay (ks.getD k 0))) k).data.length = (d.fs k).stay (ks.getD k 0) ∧
    upd (upd (fsK d ks k) k ((fsK d ks k k).trunc ((d.fs k).stay (ks.getD k 0)))) k ⟨(upd (fsK d ks k) k ((fsK d ks k k).trunc ((d.fs k).stay (ks.getD k 0))) k).data, (d.fs k).stay (ks.getD k 0)⟩ = fsK d ks (k + 1) := by
  have h := Fl.stay_le hok (ks.getD k 0)
  constructor
  · rw [upd_same, fsK_at]
    show ((d.fs k).data.take _).length = _
    rw [List.length_take]; omega
  · rw [fsK_next, upd_same, fsK_at]
    funext j
    unfold upd
    split
    · rfl
    · rfl
set_option maxRecDepth 100000 in
set_option maxHeartbeats 1000000 in
theorem crash_any (h : DRep w S g d) (ho : Ok d) (kv : Value) (ks : List Int) (hk : Kp w kv ks) (hb : 0 < ks.length → ∀ b, bl kv = some b → b ≠ g) :
    Calls Tryz.prog 191 #[.pointer (some ⟨g, 0, none⟩), kv] w fun e w' => e = .returned (.tuple #[]) ∧ DRep w' S g (crash d ks) ∧ Fr (fun b => b = g) w w' := by
  have c16 := h.cDown
  rcases hd : d.down
  · have hc : crash d ks = ⟨fun i => (d.fs i).crash (ks.getD i 0), true, d.lost, 0, []⟩ := by unfold crash; rw [hd]; rfl
    have Hc := Veil.mk hc; clear hc
    rw [hd] at c16
    have Hb := Veil.mk hb; clear hb
    have Ho := Veil.mk ho; clear ho
    obtain ⟨A, c, rfl, hkc, hkr⟩ := id hk
    have hk0 := Veil.mk hk; clear hk hkr
    have h0 : Veil (DRep w S g { d with fs := fsK d ks 0 }) := ⟨h⟩
    clear h
    go_enter Tryz.func191, Tryz.ntmps191
    go_wp2
    clear c16
    go_loopw [4, 5, 6, 11] (fun _ _ _ i wr => ∃ k : Nat, k ≤ 8 ∧ i = .int .i64 k ∧ Veil (DRep wr S g { d with fs := fsK d ks k }) ∧ Veil (Kp wr (.slice A ks.length c) ks) ∧ Veil (Fr (fun b => b = g) w wr)) (fun _ _ _ i _ => 8 - (intOf i).toNat)
    case atStart => exact ⟨0, by omega, rfl, h0, hk0, ⟨Fr.refl _ _⟩⟩
    case round =>
      clear h0 hk0
      obtain ⟨k, hk, rfl, HD, HK, HF⟩ := hrel
      by_cases hlt : k < 8
      · obtain ⟨A1, c1, cdat, hc1⟩ := HD.out.cLen k hlt (d.fs k).data.length (by simp only [fsK_at])
        have cdur := HD.out.cDur k hlt
        simp only [fsK_at] at cdur
        have hok := Ho.out.fs k
        have hdl := hok.dur
        have hll := hok.len
        have hst := Fl.stay_le hok (ks.getD k 0)
        have hsd : (d.fs k).stay (ks.getD k 0) = (d.fs k).dur + min ((d.fs k).data.length - (d.fs k).dur) (ks.getD k 0).toNat := rfl
        obtain ⟨cs1, cs2⟩ := crash_step d ks k hok
        have CS1 := Veil.mk cs1; have CS2 := Veil.mk cs2; clear cs1 cs2
        have Hst : Veil ((d.fs k).stay (ks.getD k 0) ≤ (fsK d ks k k).data.length) := ⟨by rw [fsK_at]; exact hst⟩
        clear hok hst
        generalize hS : (d.fs k).stay (ks.getD k 0) = st at hsd CS1 CS2 Hst
        have HS := Veil.mk hS; clear hS
        generalize (d.fs k).data.length = ln at *
        generalize (d.fs k).dur = du at *
        by_cases hkl : k < ks.length
        · obtain ⟨b, o, rfl, ck⟩ := HK.out.at' k hkl
          generalize ks.getD k 0 = q at *
          have hcase : (0 < q ∧ q < (ln : Int) - (du : Int)) ∨ (0 < q ∧ ¬ q < (ln : Int) - (du : Int)) ∨ (¬ 0 < q ∧ 0 < (ln : Int) - (du : Int)) ∨ (¬ 0 < q ∧ ¬ 0 < (ln : Int) - (du : Int)) := by omega
          rcases hcase with ⟨hq, hm⟩ | ⟨hq, hm⟩ | ⟨hq, hm⟩ | ⟨hq, hm⟩
          all_goals
            have Hsd := Veil.mk hsd; clear hsd
            go_wp2
            go_quiet (fail)
            have HDq := Veil.mk (HD.out.drewN nq)
            go_wp2_with (
              (go_at_call 149
               refine (trunc_any HDq.out k hlt st _ Hst.out (by have := Hsd.out; omega)).mono ?_
               rintro e w1 ⟨rfl, HD1, HF1⟩
               obtain ⟨A2, c2, cd2, hc2⟩ := HD1.cLen k hlt st CS1.out
               have f2 := HD1.free (k * 2 + 1)
               have c3 := HD1.cDur k hlt
               have HDr : Veil (DRep (w1.setCell ⟨g, k * 2 + 1, none⟩ (.int .i64 (st : Int))) S g { d with fs := fsK d ks (k + 1) }) := ⟨by rw [← CS2.out]; exact HD1.setDur k hlt st⟩
               have hFr := (Fr.drewN (S := fun b => b = g) wr nq).trans (HF1.trans (Fr.setCell (S := fun b => b = g) (p := ⟨g, k * 2 + 1, none⟩) rfl (.int .i64 (st : Int))))
               have HKr := Veil.mk (HK.out.fr Hb.out hFr)
               have HFr := Veil.mk (HF.out.trans hFr)
               clear HD1 HF1 hFr))
            go_roundw
            case rel => exact ⟨k + 1, by omega, by go_num, HDr, HKr, HFr⟩
            case measure => simp [intOf]; omega
        · have hq0 : ks.getD k 0 = 0 := by rw [List.getD_eq_getElem?_getD, List.getElem?_eq_none (by omega)]; rfl
          rw [hq0] at hsd
          have hkl2 : ¬ (k : Int) < ks.length := by omega
          clear hq0
          all_goals
            have Hsd := Veil.mk hsd; clear hsd
            go_wp2
            go_quiet (fail)
            have HDq := Veil.mk (HD.out.drewN nq)
            go_wp2_with (
              (go_at_call 149
               refine (trunc_any HDq.out k hlt st _ Hst.out (by have := Hsd.out; omega)).mono ?_
               rintro e w1 ⟨rfl, HD1, HF1⟩
               obtain ⟨A2, c2, cd2, hc2⟩ := HD1.cLen k hlt st CS1.out
               have f2 := HD1.free (k * 2 + 1)
               have c3 := HD1.cDur k hlt
               have HDr : Veil (DRep (w1.setCell ⟨g, k * 2 + 1, none⟩ (.int .i64 (st : Int))) S g { d with fs := fsK d ks (k + 1) }) := ⟨by rw [← CS2.out]; exact HD1.setDur k hlt st⟩
               have hFr := (Fr.drewN (S := fun b => b = g) wr nq).trans (HF1.trans (Fr.setCell (S := fun b => b = g) (p := ⟨g, k * 2 + 1, none⟩) rfl (.int .i64 (st : Int))))
               have HKr := Veil.mk (HK.out.fr Hb.out hFr)
               have HFr := Veil.mk (HF.out.trans hFr)
               clear HD1 HF1 hFr))
            go_roundw
            case rel => exact ⟨k + 1, by omega, by go_num, HDr, HKr, HFr⟩
            case measure => simp [intOf]; omega
      · have hk8 : 8 ≤ k := by omega
        have H0 : Veil (DRep wr S g { d with fs := (crash d ks).fs }) := ⟨HD.out.congr (fun i hi => by rw [Hc.out]; exact if_pos (show i < k from by omega)) rfl rfl rfl rfl⟩
        have c16 := H0.out.cDown
        have f16 := H0.out.free 16
        have H1 := Veil.mk (H0.out.setDown true)
        have c18 := H1.out.cArmed
        have f18 := H1.out.free 18
        have H2 : Veil (DRep ((wr.setCell ⟨g, 16, none⟩ (.bool true)).setCell ⟨g, 18, none⟩ (.int .i64 0)) S g { d with fs := (crash d ks).fs, down := true, armed := 0 }) := ⟨H1.out.setArmed 0⟩
        obtain ⟨kv, c19, _, _⟩ := H2.out.cKeep
        have f19 := H2.out.free 19
        have H3 : Veil (DRep (((wr.setCell ⟨g, 16, none⟩ (.bool true)).setCell ⟨g, 18, none⟩ (.int .i64 0)).setCell ⟨g, 19, none⟩ (.slice none 0 0)) S g (crash d ks)) := ⟨H2.out.setKeepNil.congr (fun _ _ => rfl) (by rw [Hc.out]) (by rw [Hc.out]) (by rw [Hc.out]) (by rw [Hc.out])⟩
        have HF3 : Veil (Fr (fun b => b = g) w (((wr.setCell ⟨g, 16, none⟩ (.bool true)).setCell ⟨g, 18, none⟩ (.int .i64 0)).setCell ⟨g, 19, none⟩ (.slice none 0 0))) :=
          ⟨HF.out.trans ((Fr.setCell (S := fun b => b = g) (p := ⟨g, 16, none⟩) rfl _).trans ((Fr.setCell (S := fun b => b = g) (p := ⟨g, 18, none⟩) rfl _).trans (Fr.setCell (S := fun b => b = g) (p := ⟨g, 19, none⟩) rfl _)))⟩
        clear hlt
        go_wp2
        go_end0
        exact ⟨rfl, H3.out, HF3.out⟩
  · have hc : crash d ks = d := by unfold crash; rw [if_pos hd]
    rw [hd] at c16
    have H0 : Veil (DRep w S g (crash d ks)) := ⟨by rw [hc]; exact h⟩
    clear h hc hk hb ho hd
    go_enter Tryz.func191, Tryz.ntmps191
    go_wp2
    refine bodyPost_ret (results_none rfl _ _ _) rfl ?_
    exact ⟨rfl, H0.out, Fr.refl _ _⟩
end
end Go.Proofs.YtleljbiejeofgaaGreatDoor
end
section
namespace Go.Proofs.YtleljbiejeofgaaGreatDoor
open Go.RowKit Dm
section
variable {S : Nat → Prop} {w : World} {g : Nat} {d : Dk}
theorem struck_hit {d : Dk} {e : Int} (h : (strikes d).1 = true) : struck d e = (8, crash (strikes d).2 (strikes d).2.keep) := by unfold struck; rw [h]; rfl
theorem struck_miss {d : Dk} {e : Int} (h : (strikes d).1 = false) : struck d e = (e, (strikes d).2) := by unfold struck; rw [h]; rfl
theorem all_take {l : List Int} {k : Nat} (hk : k < l.length) (h : (l.take k).all kn = true) (hx : kn (l.getD k 0) = true) : (l.take (k + 1)).all kn = true := by
  rw [List.take_succ_eq_append_getElem hk, List.all_append, h]
  rw [List.getD_eq_getElem?_getD, List.getElem?_eq_getElem hk] at hx
  simpa using hx
theorem all_not {l : List Int} {k : Nat} (hk : k < l.length) (hx : kn (l.getD k 0) = false) : l.all kn = false := by
  rw [List.getD_eq_getElem?_getD, List.getElem?_eq_getElem hk] at hx
  rw [List.all_eq_false]
  exact ⟨l[k], List.getElem_mem hk, by simpa using hx⟩
set_option maxRecDepth 100000 in
set_option maxHeartbeats 1000000 in
theorem begin_any (h : DRep w S g d) (ho : Ok d) (fv : Value) (l : List Int) (hk : Kp w fv l) (hb : ∀ b, bl fv = some b → b ≠ g) (hl : l.length ≤ 1000) :
    Calls Tryz.prog 147 #[.pointer (some ⟨g, 0, none⟩), fv] w fun e w' => e = .returned (.int .i64 (beginD d l).1) ∧ DRep w' S g (beginD d l).2 ∧ Fr (fun b => b = g) w w' := by
  have c16 := h.cDown
  rcases hd : d.down
  · have hB : beginD d l = struck d (if l.all kn then 0 else 1) := by unfold beginD; rw [hd]; rfl
    have HB := Veil.mk hB; clear hB
    rw [hd] at c16
    have HD := Veil.mk h; have HO := Veil.mk ho; have HK := Veil.mk hk; have Hb := Veil.mk hb
    clear h ho hb hd
    rcases hs : (strikes d).1
    · have HB2 : Veil (beginD d l = (if l.all kn then 0 else 1, (strikes d).2)) := ⟨by rw [HB.out, struck_miss hs]⟩
      obtain ⟨A, c, rfl, hkc, hkr⟩ := hk
      clear hkr
      go_enter Tryz.func147, Tryz.ntmps147
      go_wp2_with ((go_at_call 190
                    refine (strikes_any HD.out HO.out).mono ?_
                    rintro e w1 ⟨rfl, HD1, HF1⟩
                    have HK1 := Veil.mk (HK.out.fr (fun _ => Hb.out) HF1)
                    have HD1 := Veil.mk HD1
                    have HF1 := Veil.mk HF1))
      clear HD HK
      go_loop [6, 21] (fun _ i => ∃ k : Nat, k ≤ l.length ∧ i = .int .i64 k ∧ Veil ((l.take k).all kn = true)) (fun _ i => l.length - (intOf i).toNat)
      case atStart => exact ⟨0, by omega, rfl, ⟨rfl⟩⟩
      case round =>
        obtain ⟨k, hk, rfl, Hall⟩ := hrel
        by_cases hlt : k < l.length
        · obtain ⟨b, o, rfl, ck⟩ := HK1.out.at' k hlt
          have hki : (k : Int) < l.length := by omega
          have Ht := Veil.mk (fun hx => all_take hlt Hall.out hx)
          have Hn := Veil.mk (fun hx => all_not (l := l) (k := k) hlt hx)
          generalize l.getD k 0 = q at ck Ht Hn
          rcases hq : kn q
          · go_wp2_with (go_at_call 142; refine (known_any _ _).mono ?_; rintro e w2 ⟨rfl, rfl⟩)
            go_ret
            refine ⟨?_, ?_, HF1.out⟩
            · rw [HB2.out, Hn.out hq]; rfl
            · rw [HB2.out]; exact HD1.out
          · go_wp2_with (go_at_call 142; refine (known_any _ _).mono ?_; rintro e w2 ⟨rfl, rfl⟩)
            go_round
            case rel => exact ⟨k + 1, by omega, by go_num, ⟨Ht.out hq⟩⟩
            case measure => simp [intOf]; omega
        · have hall : l.all kn = true := by
            have := Hall.out
            rwa [List.take_of_length_le (by omega)] at this
          have HA := Veil.mk hall; clear hall
          go_wp2
          go_ret
          refine ⟨?_, ?_, HF1.out⟩
          · rw [HB2.out, HA.out]; rfl
          · rw [HB2.out]; exact HD1.out
    · have HB2 : Veil (beginD d l = (8, crash (strikes d).2 (strikes d).2.keep)) := ⟨by rw [HB.out, struck_hit hs]⟩
      clear hk
      go_enter Tryz.func147, Tryz.ntmps147
      go_wp2_with (first
        | (go_at_call 190
           refine (strikes_any HD.out HO.out).mono ?_
           rintro e w1 ⟨rfl, HD1, HF1⟩
           obtain ⟨kv, ckv, hkp, hkb⟩ := HD1.cKeep
           have HKp := Veil.mk hkp
           have HKb := Veil.mk hkb
           have HD1 := Veil.mk HD1
           have HF1 := Veil.mk HF1
           clear hkp hkb)
        | (go_at_call 191
           refine (crash_any HD1.out (strikes_ok HO.out) _ _ HKp.out (fun _ => HKb.out)).mono ?_
           rintro e w2 ⟨rfl, HD2, HF2⟩
           have HD2 := Veil.mk HD2
           have HF2 := Veil.mk (HF1.out.trans HF2)))
      go_ret
      refine ⟨?_, ?_, HF2.out⟩
      · rw [HB2.out]; rfl
      · rw [HB2.out]; exact HD2.out
  · have hB : beginD d l = (8, d) := by unfold beginD; rw [hd]; rfl
    have HB := Veil.mk hB; clear hB
    rw [hd] at c16
    have HD := Veil.mk h
    clear h hk hb ho hd
    go_enter Tryz.func147, Tryz.ntmps147
    go_wp2
    go_ret
    refine ⟨?_, ?_, Fr.refl _ _⟩
    · rw [HB.out]; rfl
    · rw [HB.out]; exact HD.out
end
end Go.Proofs.YtleljbiejeofgaaGreatDoor
end
section
namespace Go.Proofs.YtleljbiejeofgaaGreatDoor
open Go.RowKit Dm
theorem step_ap_str {P : Program} {ops : Array Oper} {o : Oper} {a : Act} {K : Act → World → Prop} {Q : Exit → Act → World → Prop} {E : Prop} (w : World) (hgd : o.guard = none) (s x : Operand) (t u : TypeId)
    (ho : o.op = .call { callee := .builtin .append, args := #[s, x], argTypes := #[t, u] }) (ht : P.underlying t = some (.slice 5)) (hu : P.underlying u = some .string)
    (hE : ElemOk P t 5 1 1) (hz : ∀ i, P.info? 5 = some i → i.zero = some (.int .u8 0)) {v : Value} {l : List UInt8} (hf : Fil w v l) (hs : a.eval s = v) (str : ByteArray) (hx : a.eval x = .string str) (hb : l.length + str.size ≤ 140737488355328)
    (h : ∀ v' w', Fil w' v' (l ++ str.data.toList) → w.grownBy w' (bl v) → (bl v' = bl v ∨ bl v' = some w.heap.size) → K (a.put o.dst v') w') : if Region.wanted o (yielded ops a.tmps) = true then Oper.wp P o a w K Q else E := by
  have hw : Region.wanted o (yielded ops a.tmps) = true := by simp [Region.wanted, hgd]
  rw [if_pos hw]
  obtain ⟨v', w', hrun, h2, h3, h4⟩ := hf.append t u o.type ht hu hE hz str hb
  unfold Oper.wp execOp
  simp only [ho, resolve, invoke, builtin, Sem.run_bind, Sem.run_pure, Result.andThen_ok, List.map_toArray, List.map_cons, List.map_nil, hs, hx, hrun]
  exact h v' w' h2 h3 h4
theorem zero8 : ∀ i, Tryz.prog.info? 5 = some i → i.zero = some (.int .u8 0) := fun i h => by
  have : (Tryz.prog.info? 5).map (·.zero) = some (some (.int .u8 0)) := by kernel_rfl
  rw [h] at this
  simpa using this
section
variable {S : Nat → Prop} {w : World} {g : Nat} {d : Dk}
set_option maxRecDepth 100000 in
set_option maxHeartbeats 2000000 in
theorem append_any (h : DRep w S g d) (ho : Ok d) (hS : ∀ b, w.heap.size ≤ b → S b) (f : Int) (s : ByteArray) (hs : s.size ≤ 9223372036854775807) :
    Calls Tryz.prog 158 #[.pointer (some ⟨g, 0, none⟩), .int .i64 f, .string s] w fun e w' => e = .returned (.int .i64 (appendD d f s.data.toList).1) ∧ DRep w' S g (appendD d f s.data.toList).2 ∧ Fr S w w' := by
  have c16 := h.cDown
  have hsl : s.data.toList.length = s.size := by simp
  have hgS := Veil.mk (show ∀ b, b = g → S b from fun b hb => by rw [hb]; exact h.at')
  rcases hd : d.down
  · rw [hd] at c16
    rcases hk : kn f
    · have hA : appendD d f s.data.toList = struck d 1 := by unfold appendD; rw [hd, hk]; rfl
      have HA := Veil.mk hA; clear hA
      have HD := Veil.mk h; have HO := Veil.mk ho
      clear h ho hd hS hsl
      rcases hst : (strikes d).1
      all_goals
        have HA2 := Veil.mk (HA.out.trans (by first | exact struck_miss hst | exact struck_hit hst))
        go_enter Tryz.func158, Tryz.ntmps158
        go_wp2_with (first
          | (go_at_call 142; refine (known_any _ _).mono ?_; rintro e w2 ⟨rfl, rfl⟩)
          | (go_at_call 190
             refine (strikes_any HD.out HO.out).mono ?_
             rintro e w1 ⟨rfl, HD1, HF1⟩
             obtain ⟨kv, ckv, hkp, hkb⟩ := HD1.cKeep
             have HKp := Veil.mk hkp
             have HKb := Veil.mk hkb
             have HD1 := Veil.mk HD1
             have HF1 := Veil.mk HF1
             clear hkp hkb)
          | (go_at_call 191
             refine (crash_any HD1.out (strikes_ok HO.out) _ _ HKp.out (fun _ => HKb.out)).mono ?_
             rintro e w2 ⟨rfl, HD2, HF2⟩
             have HD1 := Veil.mk HD2
             have HF1 := Veil.mk (HF1.out.trans HF2)))
        go_ret
        refine ⟨?_, ?_, HF1.out.more hgS.out⟩
        · rw [HA2.out]; rfl
        · rw [HA2.out]; exact HD1.out
    · obtain ⟨n, rfl, hn⟩ := kn_form hk
      have hlen := (ho.fs n).len
      by_cases hfull : 16777216 < (d.fs n).data.length + s.size
      · have hA : appendD d (n : Int) s.data.toList = struck d 7 := by unfold appendD; rw [hd, hk, hsl, if_neg (by simp), if_neg (by simp)]; exact if_pos hfull
        have HA := Veil.mk hA; clear hA
        obtain ⟨A, c, cn, hc, _⟩ := h.cData n hn
        have hfi : (16777216 : Int) - ((d.fs n).data.length : Int) < (s.size : Int) := by omega
        have HD := Veil.mk h; have HO := Veil.mk ho
        clear h ho hd hS hsl hfull
        generalize (d.fs n).data.length = ln at *
        rcases hst : (strikes d).1
        all_goals
          have HA2 := Veil.mk (HA.out.trans (by first | exact struck_miss hst | exact struck_hit hst))
          go_enter Tryz.func158, Tryz.ntmps158
          go_wp2_with (first
            | (go_at_call 142; refine (known_any _ _).mono ?_; rintro e w2 ⟨rfl, rfl⟩)
            | (go_at_call 190
               refine (strikes_any HD.out HO.out).mono ?_
               rintro e w1 ⟨rfl, HD1, HF1⟩
               obtain ⟨kv, ckv, hkp, hkb⟩ := HD1.cKeep
               have HKp := Veil.mk hkp
               have HKb := Veil.mk hkb
               have HD1 := Veil.mk HD1
               have HF1 := Veil.mk HF1
               clear hkp hkb)
            | (go_at_call 191
               refine (crash_any HD1.out (strikes_ok HO.out) _ _ HKp.out (fun _ => HKb.out)).mono ?_
               rintro e w2 ⟨rfl, HD2, HF2⟩
               have HD1 := Veil.mk HD2
               have HF1 := Veil.mk (HF1.out.trans HF2)))
          go_ret
          refine ⟨?_, ?_, HF1.out.more hgS.out⟩
          · rw [HA2.out]; rfl
          · rw [HA2.out]; exact HD1.out
      · have hA : appendD d (n : Int) s.data.toList = struck { d with fs := upd d.fs n ⟨(d.fs n).data ++ s.data.toList, (d.fs n).dur⟩ } 0 := by unfold appendD; rw [hd, hk, hsl, if_neg (by simp), if_neg (by simp)]; exact if_neg hfull
        have HA := Veil.mk hA; clear hA
        have hoD : Ok { d with fs := upd d.fs n ⟨(d.fs n).data ++ s.data.toList, (d.fs n).dur⟩ } := ⟨upd_ok ho.fs _ ⟨by have := (ho.fs n).dur; simp only [List.length_append]; omega, by simp only [List.length_append]; omega⟩, ho.lost, ho.armed⟩
        have HO := Veil.mk hoD; clear hoD
        obtain ⟨vs, kv, hr, h3⟩ := h
        obtain ⟨A, c, hv, hc⟩ := (h3.fil n hn).form
        have cn := hr.cell (i := n * 2) (by omega)
        rw [cellD_data _ _ _ _ hn, hv] at cn
        have hfil := Veil.mk (h3.fil n hn)
        have hap := Veil.mk (fun {w' : World} {v : Value} {l : List UInt8} (hf : Fil w' v l) (hg : w.drew.grownBy w' (bl (vs n))) (hb : bl v = bl (vs n) ∨ bl v = some w.drew.heap.size) =>
          DRep.appended (w := w.drew) hr ⟨h3.head, h3.fil, h3.own, h3.apart, h3.kp, h3.kown, h3.kapart, h3.klt⟩ n hn hf hg hb (hS _ (Nat.le_refl _)))
        have hfi : ¬ (16777216 : Int) - ((d.fs n).data.length : Int) < (s.size : Int) := by omega
        have hsz : (d.fs n).data.length + s.size ≤ 140737488355328 := by omega
        have Hsz := Veil.mk hsz
        have hn8 : (n : Int) < 8 := by omega
        have Hlen : Veil (((d.fs n).data ++ s.data.toList).length = (d.fs n).data.length + s.size) := ⟨by rw [List.length_append, hsl]⟩
        rw [hv] at hfil hap
        clear hr h3 ho hd hS hfull hsz hv
        clear hsl
        go_enter Tryz.func158, Tryz.ntmps158
        go_wp2_with (first
          | (go_at_call 142; refine (known_any _ _).mono ?_; rintro e w2 ⟨rfl, rfl⟩))
        go_region_law (refine step_ap_str w.drew rfl (.tmp 37) (.tmp 38) _ _ rfl Tryz.underlying71 Tryz.underlying9 elem8 zero8 hfil.out rfl s rfl Hsz.out ?_; intro v' w' hf' hg' hb'; obtain ⟨A', c', hv', hc'⟩ := hf'.form; rw [Hlen.out] at hv' hc'; subst hv'; obtain ⟨cc, ff, HD0, HF0⟩ := hap.out hf' hg' hb'; have HD0 := Veil.mk HD0; have HF0 := Veil.mk HF0; clear hf' hg' hb')
        all_goals
          rcases hst : (strikes { d with fs := upd d.fs n ⟨(d.fs n).data ++ s.data.toList, (d.fs n).dur⟩ }).1
          all_goals
            have HA2 := Veil.mk (HA.out.trans (by first | exact struck_miss hst | exact struck_hit hst))
            go_wp2_with (first
              | (go_at_call 190
                 refine (strikes_any HD0.out HO.out).mono ?_
                 rintro e w1 ⟨rfl, HD1, HF1⟩
                 obtain ⟨kv, ckv, hkp, hkb⟩ := HD1.cKeep
                 have HKp := Veil.mk hkp
                 have HKb := Veil.mk hkb
                 have HD1 := Veil.mk HD1
                 have HF1 := Veil.mk (HF0.out.trans (HF1.more hgS.out))
                 clear hkp hkb)
              | (go_at_call 191
                 refine (crash_any HD1.out (strikes_ok HO.out) _ _ HKp.out (fun _ => HKb.out)).mono ?_
                 rintro e w2 ⟨rfl, HD2, HF2⟩
                 have HD1 := Veil.mk HD2
                 have HF1 := Veil.mk (HF1.out.trans (HF2.more hgS.out))))
            go_ret
            refine ⟨?_, ?_, (Fr.drewN w 1).trans HF1.out⟩
            · rw [HA2.out]; rfl
            · rw [HA2.out]; exact HD1.out
  · have hA : appendD d f s.data.toList = (8, d) := by unfold appendD; rw [if_pos hd]
    have HA := Veil.mk hA; clear hA
    rw [hd] at c16
    have HD := Veil.mk h
    clear h ho hd hS hsl
    go_enter Tryz.func158, Tryz.ntmps158
    go_wp2
    go_ret
    refine ⟨?_, ?_, Fr.refl _ _⟩
    · rw [HA.out]; rfl
    · rw [HA.out]; exact HD.out
end
end Go.Proofs.YtleljbiejeofgaaGreatDoor
end
