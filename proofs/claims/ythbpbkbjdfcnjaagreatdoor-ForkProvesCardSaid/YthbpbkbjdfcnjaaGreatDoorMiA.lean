/- The walk of package mirror on plain values. -/
import Derived.Test.YthbpbkbjdfcnjaaGreatDoorSlA
import Derived.Test.YthbpbkbjdfcnjaaGreatDoorShI
import Derived.Test.YthbpbkbjdfcnjaaGreatDoorPeX
set_option linter.unusedSectionVars false
set_option linter.unusedVariables false
set_option linter.unusedSimpArgs false
namespace Go.Proofs.YthbpbkbjdfcnjaaGreatDoor.Pe
open Go Go.RowKit Co Sg Ac It Sl
set_option maxRecDepth 100000
set_option maxHeartbeats 4000000
abbrev mirV (m : Mirror) : AV := .agg [.it .i64 m.server, entriesV m.entries, headsV m.heads]
abbrev batchV (b : Batch) : AV := .agg [.it .i64 b.head.server, .it .i64 b.head.size, .st b.head.root, .it .i64 b.head.time, .it .i64 b.head.sig.e, .it .i64 b.head.sig.s, .it .i64 b.frm, entriesV b.entries]
structure EOk (l : List It.Entry) : Prop where
 len : l.length ≤ 1000000
 iz : ∀ e ∈ l, Iz e.item
theorem EOk.take {l : List It.Entry} (h : EOk l) (n : Nat) : EOk (l.take n) := ⟨by have := h.len; rw [List.length_take]; omega, fun e he => h.iz e (List.mem_of_mem_take he)⟩
theorem EOk.drop {l : List It.Entry} (h : EOk l) (n : Nat) : EOk (l.drop n) := ⟨by have := h.len; rw [List.length_drop]; omega, fun e he => h.iz e (List.mem_of_mem_drop he)⟩
theorem upd_self {e : Env} {d : Nat} {v : AV} (h : e d = v) : e = upd e d v := funext fun t => by
 unfold upd
 split
 ·rename_i ht; rw [ht]; exact h
 ·rfl
theorem tl0 (T : Store) (x : SObj) : (T ++ [x])[T.length]? = some x := by simp
theorem tl0s (T : Store) (x z : SObj) : (T ++ [x]).set T.length z = T ++ [z] := by simp
theorem tl1 (T : Store) (x y : SObj) : (T ++ [x] ++ [y])[T.length + 1]? = some y := by simp
theorem tl1s (T : Store) (x y z : SObj) : (T ++ [x] ++ [y]).set (T.length + 1) z = T ++ [x] ++ [z] := by simp
theorem tl10 (T : Store) (x y : SObj) : (T ++ [x] ++ [y])[T.length]? = some x := by simp
theorem mnew_c (server : Int) : AC Tryz.prog 15 [.it .i64 server] [] (mirV ⟨server, [], []⟩) [] := by
 refine AC.enter [] [] Tryz.func15 rfl (by decide) (by decide) (Nat.le_of_ble_eq_true rfl) (by kernel_rfl) ?_; simp only [eraseC, eraseO, List.map_cons, List.map_nil, List.map_toArray, List.getElem?_toArray, List.getElem?_cons_zero, List.getElem?_cons_succ, Option.bind_some, Option.bind_none, List.append_eq, List.cons_append, List.nil_append]
 refine run ?_
 exact er0w
theorem mmake_c (l : List It.Entry) (h : Head) (frm most : Int) (hl : l.length ≤ 1000000) : AC Tryz.prog 44 [entriesV l, headV h, .it .i64 frm, .it .i64 most] [] (.tup [batchV (make l h frm most).1, .bo (make l h frm most).2]) [] := by
 refine AC.enter2 [] [] Tryz.func44 rfl (by decide) (by decide) (Nat.le_of_ble_eq_true rfl) (by kernel_rfl) ?_; simp only [eraseC, eraseO, List.map_cons, List.map_nil, List.map_toArray, List.getElem?_toArray, List.getElem?_cons_zero, List.getElem?_cons_succ, Option.bind_some, Option.bind_none, List.append_eq, List.cons_append, List.nil_append]
 obtain ⟨server, size, root, time, sg⟩ := h
 unfold make
 simp only
 have hsz := entries_sz l
 by_cases h1 : (l.length : Int) < size
 ·rw [if_pos (.inl h1)]
  refine run ?_
  exact er0w
 by_cases h2 : frm < 0
 ·rw [if_pos (.inr (.inl h2))]
  refine run ?_
  exact er0w
 by_cases h3 : size ≤ frm
 ·rw [if_pos (.inr (.inr h3))]
  refine run ?_
  exact er0w
 rw [if_neg (by omega)]
 by_cases h4 : 64 < size - frm
 ·rw [if_pos (.inl h4)]
  refine run ?_
  exact er0w
 by_cases h5 : most < size - frm
 ·rw [if_pos (.inr h5)]
  refine run ?_
  exact er0w
 rw [if_neg (by omega)]
 obtain ⟨n, rfl⟩ := Int.eq_ofNat_of_zero_le (show 0 ≤ size by omega)
 obtain ⟨f, rfl⟩ := Int.eq_ofNat_of_zero_le (show 0 ≤ frm by omega)
 simp only [Int.toNat_natCast]
 have hfn : f ≤ n := by omega
 have hnl : n ≤ l.length := by omega
 refine runf (an @hsz (an @hfn @hnl)) ?_
 exact er0w
theorem mformed_c (b : Batch) (hl : b.entries.length ≤ 1000000) (hf : -9223372036854775808 ≤ b.frm ∧ b.frm ≤ 9223372036854775807) : AC Tryz.prog 54 [batchV b] [] (.bo (formed b)) [] := by
 refine AC.enter2 [60] [] Tryz.func54 rfl (by decide) (by decide) (Nat.le_of_ble_eq_true rfl) (by kernel_rfl) ?_; simp only [eraseC, eraseO, List.map_cons, List.map_nil, List.map_toArray, List.getElem?_toArray, List.getElem?_cons_zero, List.getElem?_cons_succ, Option.bind_some, Option.bind_none, List.append_eq, List.cons_append, List.nil_append]
 have kr := sright_c b.head
 unfold formed
 cases hr : rightH b.head with
 | false =>
  rw [hr] at kr
  refine run ?_
  refine cp kr ?_
  refine run ?_
  exact er0
 | true =>
  rw [hr] at kr
  have hh := rightH_lin.1 hr
  by_cases h1 : 1 ≤ b.entries.length
  rotate_left
  ·rw [decide_eq_false h1]
   have h1' : ¬ (1 : Int) ≤ (b.entries.length : Int) := by omega
   refine run ?_
   refine cp kr ?_
   refine runf @h1' ?_
   exact er0
  have h1' : (1 : Int) ≤ (b.entries.length : Int) := by omega
  by_cases h2 : b.entries.length ≤ 64
  rotate_left
  ·rw [decide_eq_true h1, decide_eq_false h2]
   have h2' : ¬ (b.entries.length : Int) ≤ 64 := by omega
   refine run ?_
   refine cp kr ?_
   refine runf (an @h1' @h2') ?_
   exact er0
  have h2' : (b.entries.length : Int) ≤ 64 := by omega
  by_cases h3 : 0 ≤ b.frm
  rotate_left
  ·rw [decide_eq_true h1, decide_eq_true h2, decide_eq_false h3]
   refine run ?_
   refine cp kr ?_
   refine runf (an @h1' @h2') ?_
   exact er0
  rw [decide_eq_true h1, decide_eq_true h2, decide_eq_true h3]
  by_cases h4 : b.frm = b.head.size - b.entries.length
  ·rw [decide_eq_true h4]
   have h4' : (b.frm == b.head.size - (b.entries.length : Int)) = true := by rw [beq_iff_eq]; exact h4
   refine run ?_
   refine cp kr ?_
   refine runf (an @h1' (an @h2' @h4')) ?_
   exact er0
  ·rw [decide_eq_false h4]
   have h4' : (b.frm == b.head.size - (b.entries.length : Int)) = false := beqF h4
   refine run ?_
   refine cp kr ?_
   refine runf (an @h1' (an @h2' @h4')) ?_
   exact er0
theorem ne_nilI {s : By} (h : s ≠ []) : (s == []) = false := nilI s [] h
theorem msound_c (ps : List Int) (e : It.Entry) (h : Iz e.item) (hp : InL ps) : AC Tryz.prog 56 [intsV ps, entryV e] [] (.bo (sound ps e)) [] := by
 refine AC.enter2 [53, 52] [] Tryz.func56 rfl (by decide) (by decide) (Nat.le_of_ble_eq_true rfl) (by kernel_rfl) ?_; simp only [eraseC, eraseO, List.map_cons, List.map_nil, List.map_toArray, List.getElem?_toArray, List.getElem?_cons_zero, List.getElem?_cons_succ, Option.bind_some, Option.bind_none, List.append_eq, List.cons_append, List.nil_append]
 have k1 := entryBytes_c e h
 have k2 := signed_c ps e.item h hp.rng
 unfold sound
 by_cases hb : entryB e = []
 ·rw [hb] at k1
  rw [decide_eq_false (fun h => h hb)]
  refine run ?_
  refine cp k1 ?_
  refine run ?_
  exact er0
 ·rw [decide_eq_true hb]
  have hn := ne_nilI hb
  generalize entryB e = x at *
  refine run ?_
  refine cp k1 ?_
  refine runf @hn ?_
  refine cp k2 ?_
  refine run ?_
  exact er0
theorem mtake_c (ps : List Int) (m : Mirror) (b : Batch) (hp : InL ps) (hm : EOk m.entries) (hm9 : m.entries.length ≤ 900000) (hh : m.heads.length ≤ 1000000) (hb : EOk b.entries) (hfr : -9223372036854775808 ≤ b.frm ∧ b.frm ≤ 9223372036854775807) :
  AC Tryz.prog 17 [intsV ps, mirV m, batchV b] [] (.tup [mirV (Sl.take ps m b).1, .it .i64 (Sl.take ps m b).2]) [] := by
 refine AC.enter2 [54, 24, 55, 23, 51, 56] [] Tryz.func17 rfl (by decide) (by decide) (Nat.le_of_ble_eq_true rfl) (by kernel_rfl) ?_; simp only [eraseC, eraseO, List.map_cons, List.map_nil, List.map_toArray, List.getElem?_toArray, List.getElem?_cons_zero, List.getElem?_cons_succ, Option.bind_some, Option.bind_none, List.append_eq, List.cons_append, List.nil_append]
 have hml := hm.len
 have hbl := hb.len
 have hpl := hp.len
 have kf := mformed_c b hbl hfr
 have hszm := entries_sz m.entries
 have hszb := entries_sz b.entries
 have hszh := heads_sz m.heads
 have hszp : allSz 1 (ps.map (AV.it .i64)) = true := allSz_map 1 _ (fun _ => rfl) _
 unfold Sl.take
 by_cases c1 : m.server < 0
 ·rw [if_pos (.inl c1)]
  refine run ?_
  exact er0w
 by_cases c2 : (ps.length : Int) ≤ m.server
 ·rw [if_pos (.inr (.inl c2))]
  refine run ?_
  exact er0w
 cases hf : formed b with
 | false =>
  rw [hf] at kf
  rw [if_pos (.inr (.inr (.inl rfl)))]
  refine run ?_
  refine cp kf ?_
  refine run ?_
  exact er0w
 | true =>
 rw [hf] at kf
 by_cases c4 : b.head.server = m.server
 rotate_left
 ·rw [if_pos (.inr (.inr (.inr c4)))]
  have q4 : (b.head.server != m.server) = true := bneT c4
  refine run ?_
  refine cp kf ?_
  refine runf @q4 ?_
  exact er0w
 have q4 : (b.head.server != m.server) = false := bneF c4
 rw [if_neg (by rintro (h | h | h | h); exact c1 h; exact c2 h; cases h; exact h c4)]
 obtain ⟨sv, hsv⟩ := Int.eq_ofNat_of_zero_le (show 0 ≤ m.server by omega)
 have hlt : sv < ps.length := by omega
 have hg : ps[m.server.toNat]? = some (ps.getD m.server.toNat 0) := by
  rw [hsv, Int.toNat_natCast, List.getD_eq_getElem?_getD, List.getElem?_eq_getElem hlt]
  rfl
 have hpr : -9223372036854775808 ≤ ps.getD m.server.toNat 0 ∧ ps.getD m.server.toNat 0 ≤ 9223372036854775807 := by
  rw [hsv, Int.toNat_natCast, List.getD_eq_getElem?_getD, List.getElem?_eq_getElem hlt]
  exact hp.rng _ (List.getElem_mem hlt)
 generalize ps.getD m.server.toNat 0 = p at *
 have h0 : 0 ≤ m.server := by omega
 have hl : m.server < (ps.length : Int) := by omega
 have kv := sverify_c p b.head hpr
 cases hv : verifyH p b.head with
 | false =>
  rw [hv] at kv
  rw [if_pos rfl]
  refine run ?_
  refine cp kf ?_
  refine runf (an @q4 (an @h0 (an @hl (an @hg @hszp)))) ?_
  refine cp kv ?_
  refine run ?_
  exact er0w
 | true =>
 rw [hv] at kv
 rw [if_neg (by simp)]
 by_cases c5 : (m.entries.length : Int) < b.frm
 ·rw [if_pos c5]
  refine run ?_
  refine cp kf ?_
  refine runf (an @q4 (an @h0 (an @hl (an @hg @hszp)))) ?_
  refine cp kv ?_
  refine runf @c5 ?_
  exact er0w
 rw [if_neg c5]
 simp only [formed, Bool.and_eq_true, decide_eq_true_eq] at hf
 obtain ⟨⟨⟨⟨f1, f2⟩, f3⟩, f4⟩, f5⟩ := hf
 have fr := rightH_lin.1 f1
 obtain ⟨f, hfe⟩ := Int.eq_ofNat_of_zero_le f4
 have hfl : f ≤ m.entries.length := by omega
 unfold logOf
 rw [hfe, Int.toNat_natCast]
 refine run ?_
 refine cp kf ?_
 refine runf (an @q4 (an @h0 (an @hl (an @hg @hszp)))) ?_
 refine cp kv ?_
 refine runf (an @c5 @hfe) ?_
 refine loop_mk (fun mm e S => e 0 = intsV ps ∧ e 4 = .ptr 0 0 ∧ e 5 = .ptr 1 0 ∧ e 6 = .ptr 2 0 ∧ e 58 = entriesV b.entries ∧ e 59 = .it .i64 (b.entries.length : Int) ∧ ∃ (k : Nat) (T : Store), e 60 = .it .i64 (k : Int) ∧ S = .cells [.it .i64 m.server, entriesV m.entries, headsV m.heads] :: .cells [.it .i64 b.head.server, .it .i64 b.head.size, .st b.head.root, .it .i64 b.head.time, .it .i64 b.head.sig.e, .it .i64 b.head.sig.s, .it .i64 (f : Int), entriesV b.entries] :: .cells [.it .i64 0, .sl .full [], .sl .full []] :: T ∧ k ≤ b.entries.length ∧ (∀ j (h1 : j < (m.entries.drop f).length) (h2 : j < b.entries.length), j < k → (m.entries.drop f)[j] = b.entries[j]) ∧ mm = b.entries.length - k) b.entries.length
  ⟨(by first | rfl | (simp only [↓upd_apply, ↓put_some, ↓reduceIte, Nat.reduceEqDiff, ↓argEnv_zero, ↓argEnv_succ, *]; done)), (by first | rfl | (simp only [↓upd_apply, ↓put_some, ↓reduceIte, Nat.reduceEqDiff, ↓argEnv_zero, ↓argEnv_succ, *]; done)), (by first | rfl | (simp only [↓upd_apply, ↓put_some, ↓reduceIte, Nat.reduceEqDiff, ↓argEnv_zero, ↓argEnv_succ, *]; done)), (by first | rfl | (simp only [↓upd_apply, ↓put_some, ↓reduceIte, Nat.reduceEqDiff, ↓argEnv_zero, ↓argEnv_succ, *]; done)), (by first | rfl | (simp only [↓upd_apply, ↓put_some, ↓reduceIte, Nat.reduceEqDiff, ↓argEnv_zero, ↓argEnv_succ, *]; done)), (by first | rfl | (simp only [↓upd_apply, ↓put_some, ↓reduceIte, Nat.reduceEqDiff, ↓argEnv_zero, ↓argEnv_succ, *]; done)), 0, [], (by first | rfl | (simp only [↓upd_apply, ↓put_some, ↓reduceIte, Nat.reduceEqDiff, ↓argEnv_zero, ↓argEnv_succ, *]; done)), rfl, by omega, fun j _ _ h => absurd h (Nat.not_lt_zero _), rfl⟩ ?_
 rintro mm e S ⟨s0, s4, s5, s6, s58, s59, k, T, s60, rfl, hk, hall, rfl⟩
 rw [upd_self s6]
 have hdl : (m.entries.drop f).length = m.entries.length - f := List.length_drop
 have hc : (f : Int) + (k : Int) = ((f + k : Nat) : Int) := by omega
 by_cases hgo : k < b.entries.length ∧ f + k < m.entries.length
 focus
  obtain ⟨hgo1, hgo2⟩ := hgo
  have hgb : b.entries[k]? = some b.entries[k] := List.getElem?_eq_getElem hgo1
  have hgm : m.entries[f + k]? = some m.entries[f + k] := List.getElem?_eq_getElem hgo2
  have hzb := hb.iz b.entries[k] (List.getElem_mem hgo1)
  have hzm := hm.iz m.entries[f + k] (List.getElem_mem hgo2)
  have hdk : (m.entries.drop f)[k]'(by omega) = m.entries[f + k] := List.getElem_drop
  have hgood : m.entries[f + k] = b.entries[k] → ∀ j (h1 : j < (m.entries.drop f).length) (h2 : j < b.entries.length), j < k + 1 → (m.entries.drop f)[j] = b.entries[j] := fun h j h1 h2 hj => by
   by_cases e : j = k
   ·subst e; rw [hdk, h]
   ·exact hall j h1 h2 (by omega)
  have hbad : m.entries[f + k] ≠ b.entries[k] → clash (m.entries.drop f) b.entries = true := fun h => by
   cases hc : clash (m.entries.drop f) b.entries with
   | true => rfl
   | false => exact absurd (by rw [← hdk]; exact clash_iff.1 hc k (by omega) hgo1) h
  have hlt' : ((f + k : Nat) : Int) < (m.entries.length : Int) := by omega
  generalize b.entries[k] = x at *
  generalize m.entries[f + k] = y at *
  have ks := sameI_c y.item x.item hzm.lz hzb.lz
  by_cases ht : y.time = x.time
  ·have qt : (y.time != x.time) = false := bneF ht
   by_cases hi : y.item = x.item
   ·rw [decide_eq_true hi] at ks
    refine runf (an @s0 (an @s4 (an @s5 (an @s6 (an @s58 (an @s59 (an @s60 (an @hc (an @hlt' (an @hgb (an @hgm (an @hszm (an @hszb (an @tl0 (an @tl0s (an @tl1 (an @tl1s (an @tl10 @qt)))))))))))))))))) ?_
    refine cp ks ?_
    refine runf (an @s0 (an @s4 (an @s5 (an @s6 (an @s58 (an @s59 @s60)))))) ?_
    exact round_mk (b.entries.length - (k + 1)) (by omega) ⟨(by first | rfl | (simp only [↓upd_apply, ↓put_some, ↓reduceIte, Nat.reduceEqDiff, ↓argEnv_zero, ↓argEnv_succ, *]; done)), (by first | rfl | (simp only [↓upd_apply, ↓put_some, ↓reduceIte, Nat.reduceEqDiff, ↓argEnv_zero, ↓argEnv_succ, *]; done)), (by first | rfl | (simp only [↓upd_apply, ↓put_some, ↓reduceIte, Nat.reduceEqDiff, ↓argEnv_zero, ↓argEnv_succ, *]; done)), (by first | rfl | (simp only [↓upd_apply, ↓put_some, ↓reduceIte, Nat.reduceEqDiff, ↓argEnv_zero, ↓argEnv_succ, *]; done)), (by first | rfl | (simp only [↓upd_apply, ↓put_some, ↓reduceIte, Nat.reduceEqDiff, ↓argEnv_zero, ↓argEnv_succ, *]; done)), (by first | rfl | (simp only [↓upd_apply, ↓put_some, ↓reduceIte, Nat.reduceEqDiff, ↓argEnv_zero, ↓argEnv_succ, *]; done)), k + 1, _, (by first | rfl | (simp only [↓upd_apply, ↓put_some, ↓reduceIte, Nat.reduceEqDiff, ↓argEnv_zero, ↓argEnv_succ, *]; done)), rfl, by omega, hgood (by cases x; cases y; simp only at ht hi; rw [ht, hi]), rfl⟩
   ·rw [decide_eq_false hi] at ks
    rw [if_pos (hbad fun e => hi (by rw [e]))]
    refine runf (an @s0 (an @s4 (an @s5 (an @s6 (an @s58 (an @s59 (an @s60 (an @hc (an @hlt' (an @hgb (an @hgm (an @hszm (an @hszb (an @tl0 (an @tl0s (an @tl1 (an @tl1s (an @tl10 @qt)))))))))))))))))) ?_
    refine cp ks ?_
    refine runf (an @s0 (an @s4 (an @s5 (an @s6 (an @s58 (an @s59 @s60)))))) ?_
    exact er0w
  ·have qt : (y.time != x.time) = true := bneT ht
   rw [if_pos (hbad fun e => ht (by rw [e]))]
   refine runf (an @s0 (an @s4 (an @s5 (an @s6 (an @s58 (an @s59 (an @s60 (an @hc (an @hlt' (an @hgb (an @hgm (an @hszm (an @hszb (an @tl0 (an @tl0s (an @tl1 (an @tl1s (an @tl10 @qt)))))))))))))))))) ?_
   exact er0w
 have hnc : clash (m.entries.drop f) b.entries = false := clash_iff.2 fun j h1 h2 => hall j h1 h2 (by omega)
 rw [hnc, if_neg (by simp)]
 have hmap : (m.entries.take f).map entryV ++ b.entries.map entryV = (m.entries.take f ++ b.entries).map entryV := List.map_append.symm
 have hlen : (m.entries.take f ++ b.entries).length = f + b.entries.length := by rw [List.length_append, List.length_take]; omega
 have hok : EOk (m.entries.take f ++ b.entries) := ⟨by omega, fun e he => by
  rcases List.mem_append.1 he with h | h
  ·exact hm.iz e (List.mem_of_mem_take h)
  ·exact hb.iz e h⟩
 generalize m.entries.take f ++ b.entries = lg at *
 have kro := sroot_c lg hok.len hok.iz
 have kti := stimes_c lg (by have := hok.len; omega)
 have hlb : lg.length ≤ 1000000 := hok.len
 have hszt := entries_sz (m.entries.take f)
 have hcase : k = b.entries.length ∨ (k < b.entries.length ∧ m.entries.length ≤ f + k) := by omega
 rcases hcase with hcase | hcase
 focus
  have hx : ¬ (k : Int) < (b.entries.length : Int) := by omega
  refine runf (an @s0 (an @s4 (an @s5 (an @s6 (an @s58 (an @s59 (an @s60 (an @hx (an @hszm (an @hszb (an @hszt @hmap))))))))))) ?_
 rotate_left
 focus
  have hgb : b.entries[k]? = some b.entries[k] := List.getElem?_eq_getElem hcase.1
  have hx : ((m.entries.length : Nat) : Int) ≤ ((f + k : Nat) : Int) := by omega
  generalize b.entries[k] = x at *
  refine runf (an @s0 (an @s4 (an @s5 (an @s6 (an @s58 (an @s59 (an @s60 (an @hc (an @hx (an @hgb (an @hszm (an @hszb (an @hszt (an @tl0 (an @tl0s @hmap))))))))))))))) ?_
 all_goals
  refine cp kro ?_
  by_cases hr : rootE lg = b.head.root
  rotate_left
  ·have qr := nilI _ _ hr
   rw [if_pos hr]
   refine runf (an @qr (an @s0 (an @s4 (an @s5 @s6)))) ?_
   exact er0w
  have qr : (rootE lg == b.head.root) = true := by rw [hr]; exact beq_self_eq_true _
  rw [if_neg (fun h => h hr)]
  cases htm : times lg with
  | false =>
   rw [htm] at kti
   rw [if_pos rfl]
   refine runf (an @qr (an @s0 (an @s4 (an @s5 @s6)))) ?_
   refine cp kti ?_
   refine runf (an @s0 (an @s4 (an @s5 @s6))) ?_
   exact er0w
  | true =>
  rw [htm] at kti
  rw [if_neg (by simp)]
  refine runf (an @qr (an @s0 (an @s4 (an @s5 @s6)))) ?_
  refine cp kti ?_
  refine runf (an @s0 (an @s4 (an @s5 @s6))) ?_
  refine loop_mk (fun mm e S => e 0 = intsV ps ∧ e 4 = .ptr 0 0 ∧ e 5 = .ptr 1 0 ∧ e 6 = .ptr 2 0 ∧ e 116 = entriesV b.entries ∧ e 117 = .it .i64 (b.entries.length : Int) ∧ (∃ L : Nat, e 12 = .sl (.own L) (lg.map entryV)) ∧ ∃ (k : Nat) (T : Store), e 118 = .it .i64 (k : Int) ∧ S = .cells [.it .i64 m.server, entriesV m.entries, headsV m.heads] :: .cells [.it .i64 b.head.server, .it .i64 b.head.size, .st b.head.root, .it .i64 b.head.time, .it .i64 b.head.sig.e, .it .i64 b.head.sig.s, .it .i64 (f : Int), entriesV b.entries] :: .cells [.it .i64 0, .sl .full [], .sl .full []] :: T ∧ k ≤ b.entries.length ∧ (b.entries.take k).all (sound ps) = true ∧ mm = b.entries.length - k) b.entries.length
   ⟨(by first | rfl | (simp only [↓upd_apply, ↓put_some, ↓reduceIte, Nat.reduceEqDiff, ↓argEnv_zero, ↓argEnv_succ, *]; done)), (by first | rfl | (simp only [↓upd_apply, ↓put_some, ↓reduceIte, Nat.reduceEqDiff, ↓argEnv_zero, ↓argEnv_succ, *]; done)), (by first | rfl | (simp only [↓upd_apply, ↓put_some, ↓reduceIte, Nat.reduceEqDiff, ↓argEnv_zero, ↓argEnv_succ, *]; done)), (by first | rfl | (simp only [↓upd_apply, ↓put_some, ↓reduceIte, Nat.reduceEqDiff, ↓argEnv_zero, ↓argEnv_succ, *]; done)), (by first | rfl | (simp only [↓upd_apply, ↓put_some, ↓reduceIte, Nat.reduceEqDiff, ↓argEnv_zero, ↓argEnv_succ, *]; done)), (by first | rfl | (simp only [↓upd_apply, ↓put_some, ↓reduceIte, Nat.reduceEqDiff, ↓argEnv_zero, ↓argEnv_succ, *]; done)), ⟨_, (by first | rfl | (simp only [↓upd_apply, ↓put_some, ↓reduceIte, Nat.reduceEqDiff, ↓argEnv_zero, ↓argEnv_succ, *]; done))⟩, 0, _, (by first | rfl | (simp only [↓upd_apply, ↓put_some, ↓reduceIte, Nat.reduceEqDiff, ↓argEnv_zero, ↓argEnv_succ, *]; done)), rfl, by omega, rfl, rfl⟩ ?_
  clear s0 s4 s5 s6 s58 s59 s60
  rintro mm e S ⟨s0, s4, s5, s6, s116, s117, ⟨L, s12⟩, k, T, s118, rfl, hk, hall, rfl⟩
  rw [upd_self s6, upd_self s12]
  by_cases hlt2 : k < b.entries.length
  ·have hgb : b.entries[k]? = some b.entries[k] := List.getElem?_eq_getElem hlt2
   have hzb := hb.iz b.entries[k] (List.getElem_mem hlt2)
   have hstep : b.entries.take (k + 1) = b.entries.take k ++ [b.entries[k]] := List.take_succ_eq_append_getElem hlt2
   have hbad : sound ps b.entries[k] = false → b.entries.all (sound ps) = false := fun h => List.all_eq_false.2 ⟨b.entries[k], List.getElem_mem hlt2, by simp [h]⟩
   generalize b.entries[k] = x at *
   have ks := msound_c ps x hzb hp
   cases hso : sound ps x with
   | false =>
    rw [hso] at ks
    rw [hbad hso, if_pos rfl]
    refine runf (an @s0 (an @s4 (an @s5 (an @s6 (an @s116 (an @s117 (an @s12 (an @s118 (an @hgb (an @hszb (an @tl0 @tl0s))))))))))) ?_
    refine cp ks ?_
    refine runf (an @s0 (an @s4 (an @s5 (an @s6 (an @s116 (an @s117 (an @s12 @s118))))))) ?_
    exact er0w
   | true =>
    rw [hso] at ks
    refine runf (an @s0 (an @s4 (an @s5 (an @s6 (an @s116 (an @s117 (an @s12 (an @s118 (an @hgb (an @hszb (an @tl0 @tl0s))))))))))) ?_
    refine cp ks ?_
    refine runf (an @s0 (an @s4 (an @s5 (an @s6 (an @s116 (an @s117 (an @s12 @s118))))))) ?_
    exact round_mk (b.entries.length - (k + 1)) (by omega) ⟨(by first | rfl | (simp only [↓upd_apply, ↓put_some, ↓reduceIte, Nat.reduceEqDiff, ↓argEnv_zero, ↓argEnv_succ, *]; done)), (by first | rfl | (simp only [↓upd_apply, ↓put_some, ↓reduceIte, Nat.reduceEqDiff, ↓argEnv_zero, ↓argEnv_succ, *]; done)), (by first | rfl | (simp only [↓upd_apply, ↓put_some, ↓reduceIte, Nat.reduceEqDiff, ↓argEnv_zero, ↓argEnv_succ, *]; done)), (by first | rfl | (simp only [↓upd_apply, ↓put_some, ↓reduceIte, Nat.reduceEqDiff, ↓argEnv_zero, ↓argEnv_succ, *]; done)), (by first | rfl | (simp only [↓upd_apply, ↓put_some, ↓reduceIte, Nat.reduceEqDiff, ↓argEnv_zero, ↓argEnv_succ, *]; done)), (by first | rfl | (simp only [↓upd_apply, ↓put_some, ↓reduceIte, Nat.reduceEqDiff, ↓argEnv_zero, ↓argEnv_succ, *]; done)), ⟨L, (by first | rfl | (simp only [↓upd_apply, ↓put_some, ↓reduceIte, Nat.reduceEqDiff, ↓argEnv_zero, ↓argEnv_succ, *]; done))⟩, k + 1, _, (by first | rfl | (simp only [↓upd_apply, ↓put_some, ↓reduceIte, Nat.reduceEqDiff, ↓argEnv_zero, ↓argEnv_succ, *]; done)), rfl, by omega, by rw [hstep, List.all_append, hall]; simp [hso], rfl⟩
  ·obtain rfl : k = b.entries.length := by omega
   rw [List.take_length] at hall
   rw [hall, if_neg (by simp)]
   have hx : ¬ ((b.entries.length : Nat) : Int) < (b.entries.length : Int) := by omega
   by_cases hsz : b.head.size ≤ (m.entries.length : Int)
   ·first
    | (exfalso; omega)
    | (rw [if_pos hsz]
       refine runf (an @s0 (an @s4 (an @s5 (an @s6 (an @s116 (an @s117 (an @s12 (an @s118 (an @hx @hsz))))))))) ?_
       exact er0w)
   ·rw [if_neg hsz]
    have hmh : m.heads.map headV ++ [AV.agg [.it .i64 b.head.server, .it .i64 b.head.size, .st b.head.root, .it .i64 b.head.time, .it .i64 b.head.sig.e, .it .i64 b.head.sig.s]] = (m.heads ++ [b.head]).map headV := by rw [List.map_append]; rfl
    have hth : m.heads.take m.heads.length = m.heads := List.take_length
    refine runf (an @s0 (an @s4 (an @s5 (an @s6 (an @s116 (an @s117 (an @s12 (an @s118 (an @hx (an @hsz (an @hszh (an @hth @hmh)))))))))))) ?_
    exact er0w
end Go.Proofs.YthbpbkbjdfcnjaaGreatDoor.Pe
