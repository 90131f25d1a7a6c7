/- The small functions of the laws of layer 16 on plain values; their example. -/
import Derived.Test.YthbpbkbjdfcnjaaGreatDoorMiB
import Derived.Test.YthbpbkbjdfcnjaaGreatDoorSlV
import Derived.Test.YthbpbkbjdfcnjaaGreatDoorRfI
set_option linter.unusedSectionVars false
set_option linter.unusedVariables false
set_option linter.unusedSimpArgs false
namespace Go.Proofs.YthbpbkbjdfcnjaaGreatDoor.Pe
open Go Go.RowKit Co Sg Ac It Sl
set_option maxRecDepth 100000
set_option maxHeartbeats 4000000
theorem tl2 (T : Store) (x y z : SObj) : (T ++ [x] ++ [y] ++ [z])[T.length + 1 + 1]? = some z := by simp [Nat.add_assoc]
theorem tl2s (T : Store) (x y z u : SObj) : (T ++ [x] ++ [y] ++ [z]).set (T.length + 1 + 1) u = T ++ [x] ++ [y] ++ [u] := by simp [Nat.add_assoc]
theorem tl21 (T : Store) (x y z : SObj) : (T ++ [x] ++ [y] ++ [z])[T.length + 1]? = some y := by simp
theorem tl20 (T : Store) (x y z : SObj) : (T ++ [x] ++ [y] ++ [z])[T.length]? = some x := by simp
def shortE (e : It.Entry) : Bool := decide (e.item.act.to.length ≤ 8) && decide (e.item.act.wraps.length ≤ 8) && decide (e.item.decision.to.length ≤ 8) && decide (e.item.act.text.length ≤ 600) && decide (e.item.act.body.data.length ≤ 600) && decide (e.item.decision.text.length ≤ 600)
def few16 (l : List It.Entry) (ps : List Int) : Bool := decide (l.length ≤ 80) && decide (ps.length ≤ 20) && l.all shortE
theorem few16_c (l : List It.Entry) (ps : List Int) (hl : l.length ≤ 140737488351232) (hp : ps.length ≤ 140737488351232) : AC Tryz.prog 12 [entriesV l, intsV ps] [] (.bo (few16 l ps)) [] := by
 refine AC.enter2 [] [] Tryz.func12 rfl (by decide) (by decide) (Nat.le_of_ble_eq_true rfl) (by kernel_rfl) ?_; simp only [eraseC, eraseO, List.map_cons, List.map_nil, List.map_toArray, List.getElem?_toArray, List.getElem?_cons_zero, List.getElem?_cons_succ, Option.bind_some, Option.bind_none, List.append_eq, List.cons_append, List.nil_append]
 unfold few16
 have hsz := entries_sz l
 by_cases c1 : l.length ≤ 80
 rotate_left
 ·have c1' : ¬ (l.length : Int) ≤ 80 := by omega
  rw [decide_eq_false c1]
  refine run ?_
  exact er0
 by_cases c2 : ps.length ≤ 20
 rotate_left
 ·rw [decide_eq_true c1, decide_eq_false c2]
  refine run ?_
  exact er0
 rw [decide_eq_true c1, decide_eq_true c2]
 refine run ?_
 refine loop_mk (fun m e S => e 0 = entriesV l ∧ ∃ (k : Nat) (T : Store), e 5 = .it .i64 (k : Int) ∧ S = T ∧ k ≤ l.length ∧ (l.take k).all shortE = true ∧ m = l.length - k) l.length
  ⟨(by first | rfl | (simp only [↓upd_apply, ↓put_some, ↓reduceIte, Nat.reduceEqDiff, ↓argEnv_zero, ↓argEnv_succ, *]; done)), 0, [], (by first | rfl | (simp only [↓upd_apply, ↓put_some, ↓reduceIte, Nat.reduceEqDiff, ↓argEnv_zero, ↓argEnv_succ, *]; done)), rfl, by omega, rfl, rfl⟩ ?_
 rintro m e S ⟨s0, k, T, s5, rfl, hk, hall, rfl⟩
 by_cases hlt : k < l.length
 rotate_left
 ·obtain rfl : k = l.length := by omega
  rw [List.take_length] at hall
  rw [hall]
  have hx : ¬ ((l.length : Nat) : Int) < (l.length : Int) := by omega
  refine runf (an @s0 (an @s5 @hx)) ?_
  exact er0
 have hg : l[k]? = some l[k] := List.getElem?_eq_getElem hlt
 have hstep : l.take (k + 1) = l.take k ++ [l[k]] := List.take_succ_eq_append_getElem hlt
 have hbad : shortE l[k] = false → l.all shortE = false := fun h => List.all_eq_false.2 ⟨l[k], List.getElem_mem hlt, by simp [h]⟩
 generalize l[k] = x at *
 have hun : shortE x = (decide (x.item.act.to.length ≤ 8) && decide (x.item.act.wraps.length ≤ 8) && decide (x.item.decision.to.length ≤ 8) && decide (x.item.act.text.length ≤ 600) && decide (x.item.act.body.data.length ≤ 600) && decide (x.item.decision.text.length ≤ 600)) := rfl
 by_cases d1 : x.item.act.to.length ≤ 8
 rotate_left
 ·have d1' : (8 : Int) < (x.item.act.to.length : Int) := by omega
  rw [hbad (by rw [hun, decide_eq_false d1]; simp)]
  refine runf (an @s0 (an @s5 (an @hg (an @hsz (an @tl0 (an @tl0s (an @tl1 (an @tl1s (an @tl10 (an @tl2 (an @tl2s (an @tl21 (an @tl20 @d1'))))))))))))) ?_
  exact er0
 have d1' : ¬ (8 : Int) < (x.item.act.to.length : Int) := by omega
 by_cases d2 : x.item.act.wraps.length ≤ 8
 rotate_left
 ·have d2' : (8 : Int) < (x.item.act.wraps.length : Int) := by omega
  rw [hbad (by rw [hun, decide_eq_false d2]; simp)]
  refine runf (an @s0 (an @s5 (an @hg (an @hsz (an @tl0 (an @tl0s (an @tl1 (an @tl1s (an @tl10 (an @tl2 (an @tl2s (an @tl21 (an @tl20 (an @d1' @d2')))))))))))))) ?_
  exact er0
 have d2' : ¬ (8 : Int) < (x.item.act.wraps.length : Int) := by omega
 by_cases d3 : x.item.decision.to.length ≤ 8
 rotate_left
 ·have d3' : (8 : Int) < (x.item.decision.to.length : Int) := by omega
  rw [hbad (by rw [hun, decide_eq_false d3]; simp)]
  refine runf (an @s0 (an @s5 (an @hg (an @hsz (an @tl0 (an @tl0s (an @tl1 (an @tl1s (an @tl10 (an @tl2 (an @tl2s (an @tl21 (an @tl20 (an @d1' (an @d2' @d3'))))))))))))))) ?_
  exact er0
 have d3' : ¬ (8 : Int) < (x.item.decision.to.length : Int) := by omega
 by_cases d4 : x.item.act.text.length ≤ 600
 rotate_left
 ·have d4' : (600 : Int) < (x.item.act.text.length : Int) := by omega
  rw [hbad (by rw [hun, decide_eq_false d4]; simp)]
  refine runf (an @s0 (an @s5 (an @hg (an @hsz (an @tl0 (an @tl0s (an @tl1 (an @tl1s (an @tl10 (an @tl2 (an @tl2s (an @tl21 (an @tl20 (an @d1' (an @d2' (an @d3' @d4')))))))))))))))) ?_
  exact er0
 have d4' : ¬ (600 : Int) < (x.item.act.text.length : Int) := by omega
 by_cases d5 : x.item.act.body.data.length ≤ 600
 rotate_left
 ·have d5' : (600 : Int) < (x.item.act.body.data.length : Int) := by omega
  rw [hbad (by rw [hun, decide_eq_false d5]; simp)]
  refine runf (an @s0 (an @s5 (an @hg (an @hsz (an @tl0 (an @tl0s (an @tl1 (an @tl1s (an @tl10 (an @tl2 (an @tl2s (an @tl21 (an @tl20 (an @d1' (an @d2' (an @d3' (an @d4' @d5'))))))))))))))))) ?_
  exact er0
 have d5' : ¬ (600 : Int) < (x.item.act.body.data.length : Int) := by omega
 by_cases d6 : x.item.decision.text.length ≤ 600
 rotate_left
 ·have d6' : (600 : Int) < (x.item.decision.text.length : Int) := by omega
  rw [hbad (by rw [hun, decide_eq_false d6]; simp)]
  refine runf (an @s0 (an @s5 (an @hg (an @hsz (an @tl0 (an @tl0s (an @tl1 (an @tl1s (an @tl10 (an @tl2 (an @tl2s (an @tl21 (an @tl20 (an @d1' (an @d2' (an @d3' (an @d4' (an @d5' @d6')))))))))))))))))) ?_
  exact er0
 have d6' : ¬ (600 : Int) < (x.item.decision.text.length : Int) := by omega
 have hs : shortE x = true := by rw [hun, decide_eq_true d1, decide_eq_true d2, decide_eq_true d3, decide_eq_true d4, decide_eq_true d5, decide_eq_true d6]; rfl
 refine runf (an @s0 (an @s5 (an @hg (an @hsz (an @tl0 (an @tl0s (an @tl1 (an @tl1s (an @tl10 (an @tl2 (an @tl2s (an @tl21 (an @tl20 (an @d1' (an @d2' (an @d3' (an @d4' (an @d5' @d6')))))))))))))))))) ?_
 exact round_mk (l.length - (k + 1)) (by omega) ⟨(by first | rfl | (simp only [↓upd_apply, ↓put_some, ↓reduceIte, Nat.reduceEqDiff, ↓argEnv_zero, ↓argEnv_succ, *]; done)), k + 1, _, (by first | rfl | (simp only [↓upd_apply, ↓put_some, ↓reduceIte, Nat.reduceEqDiff, ↓argEnv_zero, ↓argEnv_succ, *]; done)), rfl, by omega, by rw [hstep, List.all_append, hall]; simp [hs], rfl⟩
theorem honest16_c (ps : List Int) (l : List It.Entry) (hp : InL ps) (hl : EOk l) : AC Tryz.prog 14 [intsV ps, entriesV l] [] (.bo (times l && l.all (sound ps))) [] := by
 refine AC.enter2 [51, 52, 53] [] Tryz.func14 rfl (by decide) (by decide) (Nat.le_of_ble_eq_true rfl) (by kernel_rfl) ?_; simp only [eraseC, eraseO, List.map_cons, List.map_nil, List.map_toArray, List.getElem?_toArray, List.getElem?_cons_zero, List.getElem?_cons_succ, Option.bind_some, Option.bind_none, List.append_eq, List.cons_append, List.nil_append]
 have hll := hl.len
 have hsz := entries_sz l
 have kt := stimes_c l (by omega)
 generalize times l = tm at *
 refine run ?_
 refine cp kt ?_
 refine run ?_
 refine loop_mk (fun m e S => S = [] ∧ e 0 = intsV ps ∧ e 1 = entriesV l ∧ e 5 = .bo tm ∧ ∃ k : Nat, e 6 = .it .i64 (k : Int) ∧ k ≤ l.length ∧ (l.take k).all (sound ps) = true ∧ m = l.length - k) l.length
  ⟨rfl, (by first | rfl | (simp only [↓upd_apply, ↓put_some, ↓reduceIte, Nat.reduceEqDiff, ↓argEnv_zero, ↓argEnv_succ, *]; done)), (by first | rfl | (simp only [↓upd_apply, ↓put_some, ↓reduceIte, Nat.reduceEqDiff, ↓argEnv_zero, ↓argEnv_succ, *]; done)), (by first | rfl | (simp only [↓upd_apply, ↓put_some, ↓reduceIte, Nat.reduceEqDiff, ↓argEnv_zero, ↓argEnv_succ, *]; done)), 0, (by first | rfl | (simp only [↓upd_apply, ↓put_some, ↓reduceIte, Nat.reduceEqDiff, ↓argEnv_zero, ↓argEnv_succ, *]; done)), by omega, rfl, rfl⟩ ?_
 rintro m e S ⟨rfl, s0, s1, s5, k, s6, hk, hall, rfl⟩
 by_cases hlt : k < l.length
 rotate_left
 ·obtain rfl : k = l.length := by omega
  rw [List.take_length] at hall
  rw [hall, Bool.and_true]
  have hx : ¬ ((l.length : Nat) : Int) < (l.length : Int) := by omega
  refine runf (an @s0 (an @s1 (an @s5 (an @s6 @hx)))) ?_
  exact er0
 have hg : l[k]? = some l[k] := List.getElem?_eq_getElem hlt
 have hz := hl.iz l[k] (List.getElem_mem hlt)
 have hstep : l.take (k + 1) = l.take k ++ [l[k]] := List.take_succ_eq_append_getElem hlt
 have hbad : sound ps l[k] = false → l.all (sound ps) = false := fun h => List.all_eq_false.2 ⟨l[k], List.getElem_mem hlt, by simp [h]⟩
 generalize l[k] = x at *
 have k1 := signed_c ps x.item hz hp.rng
 have k2 := entryBytes_c x hz
 have hun : sound ps x = (decide (entryB x ≠ []) && signed ps x.item) := rfl
 cases hs : signed ps x.item with
 | false =>
  rw [hs] at k1
  rw [hbad (by rw [hun, hs]; simp), Bool.and_false]
  refine runf (an @s0 (an @s1 (an @s5 (an @s6 (an @hg @hsz))))) ?_
  refine cp k1 ?_
  refine runf (an @s0 (an @s1 (an @s5 @s6))) ?_
  exact er0
 | true =>
  rw [hs] at k1
  by_cases hb : entryB x = []
  ·rw [hb] at k2
   rw [hbad (by rw [hun, decide_eq_false (fun h => h hb)]; simp), Bool.and_false]
   refine runf (an @s0 (an @s1 (an @s5 (an @s6 (an @hg @hsz))))) ?_
   refine cp k1 ?_
   refine runf (an @s0 (an @s1 (an @s5 (an @s6 (an @hg @hsz))))) ?_
   refine cp k2 ?_
   refine runf (an @s0 (an @s1 (an @s5 @s6))) ?_
   exact er0
  ·have hso : sound ps x = true := by rw [hun, hs, decide_eq_true hb]; rfl
   have hn := ne_nilI hb
   generalize entryB x = y at *
   refine runf (an @s0 (an @s1 (an @s5 (an @s6 (an @hg @hsz))))) ?_
   refine cp k1 ?_
   refine runf (an @s0 (an @s1 (an @s5 (an @s6 (an @hg @hsz))))) ?_
   refine cp k2 ?_
   refine runf (an @s0 (an @s1 (an @s5 (an @s6 @hn)))) ?_
   exact round_mk (l.length - (k + 1)) (by omega) ⟨rfl, (by first | rfl | (simp only [↓upd_apply, ↓put_some, ↓reduceIte, Nat.reduceEqDiff, ↓argEnv_zero, ↓argEnv_succ, *]; done)), (by first | rfl | (simp only [↓upd_apply, ↓put_some, ↓reduceIte, Nat.reduceEqDiff, ↓argEnv_zero, ↓argEnv_succ, *]; done)), (by first | rfl | (simp only [↓upd_apply, ↓put_some, ↓reduceIte, Nat.reduceEqDiff, ↓argEnv_zero, ↓argEnv_succ, *]; done)), k + 1, (by first | rfl | (simp only [↓upd_apply, ↓put_some, ↓reduceIte, Nat.reduceEqDiff, ↓argEnv_zero, ↓argEnv_succ, *]; done)), by omega, by rw [hstep, List.all_append, hall]; simp [hso], rfl⟩
theorem batch16_c (k : Key) (server : Int) (l : List It.Entry) (frm to : Int) (hk : -9223372036854775808 ≤ k.secret ∧ k.secret ≤ 9223372036854775807) (hl : EOk l) : AC Tryz.prog 16 [keyV k, .it .i64 server, entriesV l, .it .i64 frm, .it .i64 to] [] (.tup [batchV (batchOf k server l frm to).1, .bo (batchOf k server l frm to).2]) [] := by
 refine AC.enter2 [34, 44] [] Tryz.func16 rfl (by decide) (by decide) (Nat.le_of_ble_eq_true rfl) (by kernel_rfl) ?_; simp only [eraseC, eraseO, List.map_cons, List.map_nil, List.map_toArray, List.getElem?_toArray, List.getElem?_cons_zero, List.getElem?_cons_succ, Option.bind_some, Option.bind_none, List.append_eq, List.cons_append, List.nil_append]
 have hll := hl.len
 have hsz := entries_sz l
 unfold batchOf
 by_cases c1 : to < 1
 ·rw [if_pos (.inl c1)]
  refine run ?_
  exact er0w
 by_cases c2 : (l.length : Int) < to
 ·rw [if_pos (.inr c2)]
  refine run ?_
  exact er0w
 rw [if_neg (by omega)]
 obtain ⟨t, rfl⟩ : ∃ t : Nat, to = ((t + 1 : Nat) : Int) := ⟨(to - 1).toNat, by omega⟩
 rw [Int.toNat_natCast]
 have hlt : t < l.length := by omega
 have hg : l[t]? = some l[t] := List.getElem?_eq_getElem hlt
 have hc : ((t + 1 : Nat) : Int) - 1 = (t : Int) := by omega
 have htl : t + 1 ≤ l.length := by omega
 have hlast : lastTime l (t + 1) = l[t].time := by
  unfold lastTime
  rw [Nat.add_sub_cancel, List.getD_eq_getElem?_getD, hg]
  rfl
 have k1 := shead_c k server (l.take (t + 1)) (lastTime l (t + 1)) hk (by rw [List.length_take]; omega) (fun e he => hl.iz e (List.mem_of_mem_take he))
 rw [hlast] at k1 ⊢
 have k2 := mmake_c l (mkHead k server (l.take (t + 1)) l[t].time) frm 64 hll
 generalize mkHead k server (l.take (t + 1)) l[t].time = h at *
 generalize l[t] = x at *
 refine runf (an @hg (an @hsz (an @hc @htl))) ?_
 refine cp k1 ?_
 refine run ?_
 refine cp k2 ?_
 refine run ?_
 exact er0w
theorem begins16_c (l m : List It.Entry) (hl : EOk l) (hm : EOk m) : AC Tryz.prog 18 [entriesV l, entriesV m] [] (.bo (decide (m.length ≤ l.length) && decide (l.take m.length = m))) [] := by
 refine AC.enter2 [22] [] Tryz.func18 rfl (by decide) (by decide) (Nat.le_of_ble_eq_true rfl) (by kernel_rfl) ?_; simp only [eraseC, eraseO, List.map_cons, List.map_nil, List.map_toArray, List.getElem?_toArray, List.getElem?_cons_zero, List.getElem?_cons_succ, Option.bind_some, Option.bind_none, List.append_eq, List.cons_append, List.nil_append]
 have hll := hl.len
 have hml := hm.len
 have hsz := entries_sz l
 by_cases c1 : m.length ≤ l.length
 ·have c1' : (m.length : Int) ≤ (l.length : Int) := by omega
  have k := fsame15_c (l.take m.length) m (hl.take _) hm
  rw [decide_eq_true c1]
  refine runf (an @c1' (an @c1 @hsz)) ?_
  refine cp k ?_
  refine run ?_
  exact er0
 ·have c1' : ¬ (m.length : Int) ≤ (l.length : Int) := by omega
  rw [decide_eq_false c1]
  refine runf @c1' ?_
  exact er0
theorem ref16_c (m : Mirror) : AC Tryz.prog 20 [mirV m] [] (mirV m) [] := by
 refine AC.enter2 [] [] Tryz.func20 rfl (by decide) (by decide) (Nat.le_of_ble_eq_true rfl) (by kernel_rfl) ?_; simp only [eraseC, eraseO, List.map_cons, List.map_nil, List.map_toArray, List.getElem?_toArray, List.getElem?_cons_zero, List.getElem?_cons_succ, Option.bind_some, Option.bind_none, List.append_eq, List.cons_append, List.nil_append]
 refine run ?_
 exact er0w
abbrev exActor : By := [48, 48, 48, 48, 48, 48, 48, 48, 48, 48, 48, 48, 48, 48, 97, 49]
theorem exActor_id : idR exActor = true := by decide +kernel
def exKey : Key := keySeed [115, 101, 114, 118, 101, 114]
theorem exKey_right : exKey.right = true := keySeed_right _
theorem root_nil_len : (Mk.root []).length = 32 := root_len (fun x hx => by cases hx)
def exBallot : It.Ballot := ⟨0, exActor, 0, Mk.root [], 0, sig0⟩
def exSigned : It.Ballot := signBallot exKey exBallot
def exClaim : It.Claim := ⟨exActor, 1, Mk.root [], 0, 0, 1, 0, sig0⟩
def exEntries : List It.Entry := [⟨1, ofBallot exSigned⟩, ⟨2, ofClaim exClaim⟩]
theorem exBallot_sh : Sh (ofBallot exBallot) := ⟨⟨⟨by decide, by decide⟩, by decide, ⟨by decide, by show (Mk.root []).length ≤ _; rw [root_nil_len]; decide⟩, by decide, ⟨by decide, by decide, by decide⟩, ⟨by decide, fun s hs => by cases hs⟩, by decide⟩, by decide⟩
theorem exSigned_right : It.right (ofBallot exSigned) = true := by
 refine (right_ballot rfl).2 ⟨?_, rfl, rfl, rfl⟩
 show rightBallot exSigned = true
 have e1 : exSigned.server = 0 := rfl
 have e2 : exSigned.actor = exActor := rfl
 have e3 : exSigned.gen = 0 := rfl
 have e4 : exSigned.claim = Mk.root [] := rfl
 have e5 : exSigned.time = 0 := rfl
 have e6 : sigR exSigned.sig = true := sig_sigR _ _
 unfold rightBallot
 rw [e1, e2, e3, e4, e5, e6, exActor_id, show dig (Mk.root []) = true from decide_eq_true root_nil_len]
 rfl
theorem exClaim_right : It.right (ofClaim exClaim) = true := by
 refine (right_claim rfl).2 ⟨?_, rfl, rfl, rfl⟩
 show rightClaim exClaim = true
 have e1 : exClaim.actor = exActor := rfl
 have e2 : exClaim.prev = Mk.root [] := rfl
 unfold rightClaim
 rw [e1, e2, exActor_id, show dig (Mk.root []) = true from decide_eq_true root_nil_len]
 rfl
theorem exSigned_signed : signed [exKey.pub] (ofBallot exSigned) = true := by
 unfold signed
 rw [if_pos exSigned_right, if_pos (.inl rfl)]
 have h : It.signedBy exKey.pub (ofBallot exSigned) = true := verify_sign exKey_right _
 show (decide (0 < (1 : Int)) && It.signedBy exKey.pub (ofBallot exSigned)) = true
 rw [h]
 rfl
theorem exClaim_signed : signed [exKey.pub] (ofClaim exClaim) = true := by
 unfold signed
 rw [if_pos exClaim_right]
 rfl
theorem exGood : Sl.Good [exKey.pub] 0 exKey exEntries := by
 refine ⟨by decide, by decide, by decide, rfl, exKey_right, ⟨rfl, ?_⟩, by decide⟩
 have h1 : sound [exKey.pub] ⟨1, ofBallot exSigned⟩ = true := sound_iff.2 ⟨by decide, exSigned_right, exSigned_signed⟩
 have h2 : sound [exKey.pub] ⟨2, ofClaim exClaim⟩ = true := sound_iff.2 ⟨by decide, exClaim_right, exClaim_signed⟩
 show (sound [exKey.pub] ⟨1, ofBallot exSigned⟩ && (sound [exKey.pub] ⟨2, ofClaim exClaim⟩ && true)) = true
 rw [h1, h2]
 rfl
theorem exOk : EOk exEntries := ⟨by decide, fun e he => by
 rcases List.mem_cons.1 he with rfl | he
 ·exact iz_right exSigned_right
 rcases List.mem_cons.1 he with rfl | he
 ·exact iz_right exClaim_right
 ·cases he⟩
theorem key_rng {k : Key} (h : k.right = true) : (-9223372036854775808 ≤ k.secret ∧ k.secret ≤ 9223372036854775807) ∧ (-9223372036854775808 ≤ k.pub ∧ k.pub ≤ 9223372036854775807) := by
 obtain ⟨h1, h2, h3⟩ := Key.right_iff.1 h
 have := pub_range h
 exact ⟨by omega, by omega⟩
def exHead : Head := headTo exKey 0 exEntries 2
theorem exHead_eq : mkHead exKey 0 exEntries 2 = exHead := rfl
theorem exHead_size : exHead.size = 2 := (headTo_ok exGood (t := 2) (by decide) (by decide)).2.1
theorem exMake1 : make exEntries exHead 0 64 = (⟨exHead, 0, exEntries⟩, true) := by
 unfold make
 rw [exHead_size]
 rfl
theorem exMake2 : make exEntries exHead 2 64 = (batch0, false) := by
 unfold make
 rw [exHead_size]
 rfl
theorem exMake3 : make exEntries exHead 0 1 = (batch0, false) := by
 unfold make
 rw [exHead_size]
 rfl
theorem exMake4 : make exEntries exHead 1 64 = (⟨exHead, 1, exEntries.drop 1⟩, true) := by
 unfold make
 rw [exHead_size]
 rfl
theorem exTake1 : Sl.take [exKey.pub] ⟨0, [], []⟩ ⟨exHead, 0, exEntries⟩ = (⟨0, exEntries, [exHead]⟩, 0) := by
 have := take_own exGood ⟨0, [], []⟩ rfl (n := 0) (by decide) rfl (frm := 0) (t := 2) (by decide) (by decide) (by decide)
 exact this
theorem exTake2 : Sl.take [exKey.pub] ⟨0, [], []⟩ ⟨exHead, 1, exEntries.drop 1⟩ = (mirror0, 12) := by
 have := take_own exGood ⟨0, [], []⟩ rfl (n := 0) (by decide) rfl (frm := 1) (t := 2) (by decide) (by decide) (by decide)
 exact this
theorem exRight : rightM [exKey.pub] ⟨0, exEntries, [exHead]⟩ = true := (mir_next exGood (mir_new exGood) (t := 2) (by decide) (by decide)).right
theorem small16_c : AC Tryz.prog 11 [] [] (.bo true) [] := by
 refine AC.enter2 [15, 17, 45, 48, 47, 46, 49, 34, 44, 21] [] Tryz.func11 rfl (by decide) (by decide) (Nat.le_of_ble_eq_true rfl) (by kernel_rfl) ?_; simp only [eraseC, eraseO, List.map_cons, List.map_nil, List.map_toArray, List.getElem?_toArray, List.getElem?_cons_zero, List.getElem?_cons_succ, Option.bind_some, Option.bind_none, List.append_eq, List.cons_append, List.nil_append]
 have hkr := key_rng exKey_right
 have hps : InL [exKey.pub] := ⟨by decide, fun i hi => by rw [List.mem_singleton.1 hi]; exact hkr.2⟩
 have hps0 : InL [] := ⟨by decide, fun i hi => by cases hi⟩
 have hok0 : EOk [] := ⟨by decide, fun e he => by cases he⟩
 have k1 := mtake_c [] ⟨3, [], []⟩ batch0 hps0 hok0 (by decide) (by decide) hok0 (by decide)
 rw [show Sl.take [] ⟨3, [], []⟩ batch0 = (mirror0, 1) from rfl] at k1
 have k2 := rkey_c [115, 101, 114, 118, 101, 114] (by decide)
 change AC _ _ _ _ (keyV exKey) _ at k2
 have k3 := fsignBallot_c exKey exBallot exBallot_sh hkr.1
 change AC _ _ _ _ (ballotV exSigned) _ at k3
 have k4 := fofBallot_c exSigned
 have k5 := fofClaim_c exClaim
 have k6 := shead_c exKey 0 exEntries 2 hkr.1 (by decide) exOk.iz
 rw [exHead_eq] at k6
 have k7 := mmake_c exEntries exHead 0 64 (by decide)
 rw [exMake1] at k7
 have k8 := mmake_c exEntries exHead 2 64 (by decide)
 rw [exMake2] at k8
 have k9 := mmake_c exEntries exHead 0 1 (by decide)
 rw [exMake3] at k9
 have k10 := mmake_c exEntries exHead 1 64 (by decide)
 rw [exMake4] at k10
 have k11 := mtake_c [exKey.pub] ⟨0, [], []⟩ ⟨exHead, 0, exEntries⟩ hps hok0 (by decide) (by decide) exOk (by show -9223372036854775808 ≤ (0 : Int) ∧ (0 : Int) ≤ _; decide)
 rw [exTake1] at k11
 have k12 := mtake_c [exKey.pub] ⟨0, [], []⟩ ⟨exHead, 1, exEntries.drop 1⟩ hps hok0 (by decide) (by decide) (exOk.drop 1) (by show -9223372036854775808 ≤ (1 : Int) ∧ (1 : Int) ≤ _; decide)
 rw [exTake2] at k12
 have k13 := mright_c [exKey.pub] ⟨0, exEntries, [exHead]⟩ hps exOk (by show 1 ≤ 1000000; decide)
 rw [exRight] at k13
 have hE : exEntries = [⟨1, ofBallot exSigned⟩, ⟨2, ofClaim exClaim⟩] := rfl
 rw [hE] at k6 k7 k8 k9 k10 k11 k12 k13
 clear hE
 generalize exHead = hd at *
 generalize exSigned = sg at *
 refine run ?_
 refine cp (mnew_c 3) ?_
 refine run ?_
 refine cp k1 ?_
 refine run ?_
 refine cp k2 ?_
 refine run ?_
 refine cp froot0_c ?_
 refine run ?_
 refine cp k3 ?_
 refine run ?_
 refine cp k4 ?_
 refine run ?_
 refine cp froot0_c ?_
 refine run ?_
 refine cp k5 ?_
 refine run ?_
 refine cp k6 ?_
 refine run ?_
 refine cp k7 ?_
 refine run ?_
 refine cp k6 ?_
 refine run ?_
 refine cp k8 ?_
 refine run ?_
 refine cp k6 ?_
 refine run ?_
 refine cp k9 ?_
 refine run ?_
 refine cp k6 ?_
 refine run ?_
 refine cp k10 ?_
 refine run ?_
 refine cp (mnew_c 0) ?_
 refine run ?_
 refine cp k11 ?_
 refine run ?_
 refine cp (mnew_c 0) ?_
 refine run ?_
 refine cp k12 ?_
 refine run ?_
 refine cp k13 ?_
 refine run ?_
 exact er0
end Go.Proofs.YthbpbkbjdfcnjaaGreatDoor.Pe
