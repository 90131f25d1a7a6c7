/- Several texts in one, without what this claim does not use (tools/shake.py). -/
import Derived.Test.YtleljbiejeofgaaGreatDoorKa15
import Derived.Shelf.SlIterI.Nil
import Derived.Shelf.SortM.Plain
import Derived.Shelf.SortM.SortNone
import Derived.Ground.GgzProg
import Derived.Ground.SlgmProg
import Derived.Shelf.SlGeneric
import Derived.Test.YtleljbiejeofgaaGreatDoorProg
set_option linter.unusedSectionVars false
set_option linter.unusedVariables false
set_option linter.unusedSimpArgs false
section
namespace Go.Proofs.YtleljbiejeofgaaGreatDoor.Pe
open Go Go.RowKit Co Sg Ac It Sl Wl
set_option maxRecDepth 100000
set_option maxHeartbeats 8000000
section
variable {P : Program} [Tab] {N N0 : Nat} {Q : AX → Env → Store → Prop} {e : Env} {S : Store}
theorem HW.weak {c : Code} {e' : Env} {S' : Store} (hw : Weak N0 e S e' S') (h : HW P N N0 c Q e' S') : HW P N N0 c Q e S := fun w0 g0 a w hn hc => h w0 g0 a w hn (hw N w0 g0 a w hn hc)
theorem HW.cut {x y : Code} (I : Env → Store → Prop) (h1 : ∀ K : Env → Store → Prop, (∀ e S, I e S → K e S) → HW P N N0 x (thenQ Q K) e S) (h2 : ∀ e S, I e S → HW P N N0 y Q e S) : HW P N N0 (.seq x y) Q e S := HW.seq (h1 _ h2)
theorem HW.raw (pf rf : List FuncId) {id : Nat} {ops : Array Oper} (hm : P.follows .mixedOrders = true) (hds : dstsOk N ops = true) (h : wpX P (clsOf P pf rf) .any ops (Q .norm) ops.size (Array.replicate ops.size false) e S) : HW P N N0 (.region id ops true) Q e S := fun w0 g0 a w hn hc => by
 refine wpIn_region_any hm (wpAny_of_x none (cls := clsOf P pf rf) hds (fun e S _ _ hc hq => ⟨e, S, hc, hq⟩) _ _ e S a _ (hc.draw _) ?_)
 exact h
theorem Weak.reserveRow (N0 : Nat) {e : Env} {S : Store} (l i : Nat) {cs : List AV} (hS : S[l]? = some (.cells cs)) (hi : cs[i]? = some (.sl .full [])) (ty : TypeId) {sz : Nat} (hsz : 0 < sz) : Weak N0 e S e (S.set l (.cells (cs.set i (.wr S.length 0 none))) ++ [.row [] ty sz]) := by
 rintro N w0 g0 a w hn ⟨h1, h2, g, h3, h4, h5⟩
 obtain ⟨g', h6, h7, h8⟩ := h3.reserve_row ty hsz
 have hlS := (List.getElem?_eq_some_iff.1 hS).1
 have hic := (List.getElem?_eq_some_iff.1 hi).1
 have hn3 := h3.nid
 have hn6 := h6.nid
 rw [List.length_append, List.length_singleton] at hn6
 refine ⟨h1, h2, g', ⟨by rw [List.length_append, List.length_set, List.length_singleton]; exact hn6, fun k o hk => ?_, h6.disj, h6.lt, h6.tab⟩, fun t => (h4 t).le h7.toLe, h5.trans h7⟩
 by_cases hkl : k = l
 ·subst hkl
  rw [List.getElem?_append_left (by rw [List.length_set]; exact hlS), List.getElem?_set_self hlS] at hk
  cases hk
  obtain ⟨k1, k2, k3, arr, T, fr, k4, k5, k6, k7, k8⟩ := h6.obj k (.cells cs) (get_app hS _)
  refine ⟨k1, k2, k3, arr, T, fr, k4, k5, by rw [List.length_set]; exact k6, k7, fun j u v hu hv => ?_⟩
  by_cases hj : j = i
  ·subst hj
   rw [List.getElem?_set_self hic] at hu
   cases hu
   have hr := k8 j _ v hi hv
   cases hr with
   | sl _ _ _ A c sz cu hc hcm hsz hA ho hr hm =>
    obtain rfl : c = 0 := hm
    exact h8 A
  ·rw [List.getElem?_set_ne (Ne.symm hj)] at hu
   exact k8 j u v hu hv
 ·refine h6.obj k o ?_
  by_cases hkS : k < S.length
  ·rw [List.getElem?_append_left (by rw [List.length_set]; exact hkS), List.getElem?_set_ne (Ne.symm hkl)] at hk
   rw [List.getElem?_append_left hkS]
   exact hk
  ·rw [List.getElem?_append_right (by rw [List.length_set]; omega), List.length_set] at hk
   rw [List.getElem?_append_right (by omega)]
   exact hk
end
theorem iopen_bad (d : Dm.Dk) (ps : List Int) (hp : ps.length = 3) : AC Tryz.prog 24 [.ptr 0 0, .it .i64 2, intsV ps, .it .i64 3] [XD d] (.tup [.ot (.pointer none), .it .i64 1]) [XD d] := by
 have h3 : ((ps.length : Nat) : Int) = 3 := by omega
 refine AC.hw 76 Tryz.func24 rfl (by decide) (Nat.le_of_ble_eq_true rfl) rfl ?_
 refine HW.seq (HW.aw [] [] (by decide) (by kernel_rfl) ?_)
 refine zev ?_
 refine run ?_
 refine HW.seq (HW.aw [] [] (by decide) (by kernel_rfl) ?_)
 refine zev ?_
 refine runf @h3 ?_
 exact er1
theorem cloneI_c (l : List Int) (hl : l.length ≤ 1000000) : AC Tryz.prog 52 [intsV l] [] (intsV l) [] := by
 cases l with
 | nil =>
  refine AC.empties fun A c => ?_
  refine AC.enter [] [] Tryz.func52 rfl (by decide) (by decide) (Nat.le_of_ble_eq_true rfl) (by kernel_rfl) ?_; refine zev ?_
  cases A with
  | none =>
   refine run ?_
   exact er0w
  | some A =>
   refine run ?_
   exact er0w
 | cons x l =>
  have hs1 : allSz 1 ((x :: l).map (AV.it .i64)) = true := allSz_map 1 (AV.it .i64) (fun _ => rfl) _
  have hl' : l.length ≤ 1000000 := by simp only [List.length_cons] at hl; omega
  show AC _ _ [.sl .ro ((x :: l).map (AV.it .i64))] _ (.sl .ro ((x :: l).map (AV.it .i64))) _
  simp only [List.map_cons] at hs1 ⊢
  refine AC.enter [] [] Tryz.func52 rfl (by decide) (by decide) (Nat.le_of_ble_eq_true rfl) (by kernel_rfl) ?_; refine zev ?_
  refine runf @hs1 ?_
  exact er0w
section
variable {P : Program} [Tab] {pf rf : List FuncId} {ops : Array Oper} {Q : Env → Store → Prop} {fuel : Nat} {listed : Array Bool} {e : Env} {S : Store}
abbrev RwStep (P : Program) [Tab] (pf rf : List FuncId) (ops : Array Oper) (Q : Env → Store → Prop) (fuel : Nat) (listed : Array Bool) (e : Env) (S : Store) (i : Nat) : Prop :=
 ∃ o : Oper, ops[i]? = some o ∧ o.guard = none ∧ ARg P pf rf [⟨o.dst, o.op, none⟩] e S (Rw P pf rf ops Q fuel (listed.setIfInBounds i true))
theorem rw_1 {i : Nat} (hr : Region.ready .any ops listed = [i]) (h1 : RwStep P pf rf ops Q fuel listed e S i) : wpX P (clsOf P pf rf) .any ops Q (fuel + 1) listed e S :=
 rw_all (by rw [hr]; rfl) (fun k hk => by rw [hr, List.mem_singleton] at hk; rw [hk]; exact h1)
theorem rw_2 {i j : Nat} (hr : Region.ready .any ops listed = [i, j]) (h1 : RwStep P pf rf ops Q fuel listed e S i) (h2 : RwStep P pf rf ops Q fuel listed e S j) : wpX P (clsOf P pf rf) .any ops Q (fuel + 1) listed e S :=
 rw_all (by rw [hr]; rfl) (fun k hk => by
  rw [hr] at hk
  rcases List.mem_cons.1 hk with hk | hk
  ·rw [hk]; exact h1
  ·rw [List.mem_singleton.1 hk]; exact h2)
theorem rw_3 {i j m : Nat} (hr : Region.ready .any ops listed = [i, j, m]) (h1 : RwStep P pf rf ops Q fuel listed e S i) (h2 : RwStep P pf rf ops Q fuel listed e S j) (h3 : RwStep P pf rf ops Q fuel listed e S m) : wpX P (clsOf P pf rf) .any ops Q (fuel + 1) listed e S :=
 rw_all (by rw [hr]; rfl) (fun k hk => by
  rw [hr] at hk
  rcases List.mem_cons.1 hk with hk | hk
  ·rw [hk]; exact h1
  rcases List.mem_cons.1 hk with hk | hk
  ·rw [hk]; exact h2
  ·rw [List.mem_singleton.1 hk]; exact h3)
end
theorem iload_nil (b : Bx) : AC Tryz.prog 53 [.ptr 3 0, .sl .ro []] (XB b) (.bo true) (XB b) := by
 obtain ⟨ps, d, rows, m1, m2, pf, c1, c2, lo⟩ := b
 refine AC.enter2 [104] [] Tryz.func53 rfl (by decide) (by decide) (Nat.le_of_ble_eq_true rfl) (by kernel_rfl) ?_; refine zev ?_
 refine run ?_
 refine loop_mk (fun m e S => e 14 = .sl .ro [] ∧ e 15 = .it .i64 0 ∧ e 16 = .it .i64 0 ∧ S = XB ⟨ps, d, rows, m1, m2, pf, c1, c2, lo⟩ ∧ m = 0) 0 ⟨zsl, zsl, zsl, rfl, rfl⟩ ?_
 rintro m e S ⟨s14, s15, s16, rfl, rfl⟩
 refine runf (an @s14 (an @s15 @s16)) ?_
 exact ends_ret (List.range 8) (by rfl) (xb_same ⟨ps, d, rows, m1, m2, pf, c1, c2, lo⟩) (by rfl) (by rfl) (by rfl)
theorem iop_sub {κ : List Nat} {S : Store} {ps : List Int} {d' : Dm.Dk} {p r c : Nat} (hκ : κ = [0, 1, 2, 6, p, r, c]) (hps : (p = 3 ∧ r = 4 ∧ c = 5) ∨ (p = 3 ∧ r = 5 ∧ c = 4) ∨ (p = 4 ∧ r = 3 ∧ c = 5) ∨ (p = 5 ∧ r = 3 ∧ c = 4) ∨ (p = 4 ∧ r = 5 ∧ c = 3) ∨ (p = 5 ∧ r = 4 ∧ c = 3))
  (h0 : S[0]? = some (XD d')) (h1 : S[1]? = some (.cells [.ptr 0 0, .it .i64 2, .sl (.own 2) []])) (h2 : S[2]? = some (.buf 0 9 1)) (h6 : S[6]? = some (.cells [.ptr 0 0, .ptr 1 0, intsV ps, .it .i64 0, .sl .full [], .mp p, .mp r, .ws c 0 3 3, .bo false])) (hp : S[p]? = some (.map [])) (hr : S[r]? = some (.map [])) (hc : S[c]? = some (.cells [.it .i64 0, .it .i64 0, .it .i64 0])) :
  SubOk κ S [XD d', .cells [.ptr 0 0, .it .i64 2, .sl (.own 2) []], .buf 0 9 1, .cells [.ptr 0 0, .ptr 1 0, intsV ps, .it .i64 0, .sl .full [], .mp 4, .mp 5, .ws 6 0 3 3, .bo false], .map [], .map [], .cells [.it .i64 0, .it .i64 0, .it .i64 0]] := by
 subst hκ
 have hn : [0, 1, 2, 6, p, r, c].Nodup := by rcases hps with ⟨rfl, rfl, rfl⟩ | ⟨rfl, rfl, rfl⟩ | ⟨rfl, rfl, rfl⟩ | ⟨rfl, rfl, rfl⟩ | ⟨rfl, rfl, rfl⟩ | ⟨rfl, rfl, rfl⟩ <;> decide
 refine ⟨hn, rfl, fun i o hi => ?_⟩
 match i, hi with
 | 0, hi => cases hi; exact ⟨rfl, h0⟩
 | 1, hi => cases hi; exact ⟨rfl, h1⟩
 | 2, hi => cases hi; exact ⟨rfl, h2⟩
 | 3, hi => cases hi; exact ⟨rfl, h6⟩
 | 4, hi => cases hi; exact ⟨rfl, hp⟩
 | 5, hi => cases hi; exact ⟨rfl, hr⟩
 | 6, hi => cases hi; exact ⟨rfl, hc⟩
theorem iopen_c (ps : List Int) (hp : ps.length = 3) {d' : Dm.Dk} (he : openD Dm.dk0 2 = (0, d')) : AC Tryz.prog 24 [.ptr 0 0, .it .i64 2, intsV ps, .it .i64 0] [XD Dm.dk0] (.tup [.ptr 3 0, .it .i64 0]) (XB ⟨ps, d', [], ⟨1, [], []⟩, ⟨2, [], []⟩, none, 0, 0, false⟩) := by
 have k2 := wopen_ok Dm.dk0 2 (by decide) (by decide) (by rw [he])
 rw [he] at k2
 change AC _ _ _ _ _ (LG d' 2 []) at k2
 have k3 := cloneI_c ps (by omega)
 have k4 := wall_c d' 2 [] (by decide)
 have k5 := iload_nil ⟨ps, d', [], ⟨1, [], []⟩, ⟨2, [], []⟩, none, 0, 0, false⟩
 have m0 := mnew_c 0
 have m1 := mnew_c 1
 have m2 := mnew_c 2
 have h3 : ((ps.length : Nat) : Int) = 3 := by omega
 have hfl : ∀ cs : List AV, flat [AV.agg cs] = cs := fun cs => by simp [flat, AV.cells]
 refine AC.hw 76 Tryz.func24 rfl (by decide) (Nat.le_of_ble_eq_true rfl) rfl ?_
 refine HW.seq (HW.aw [] [] (by decide) (by kernel_rfl) ?_)
 refine zev ?_
 refine run ?_
 refine HW.seq (HW.aw [] [] (by decide) (by kernel_rfl) ?_)
 refine zev ?_
 refine runf @h3 ?_
 refine HW.seq (HW.aw [] [] (by decide) (by kernel_rfl) ?_)
 refine zev ?_
 refine run ?_
 refine clo 0 k2 ?_
 refine run ?_
 refine HW.seq (HW.aw [] [] (by decide) (by kernel_rfl) ?_)
 refine zev ?_
 refine run ?_
 refine HW.cut (fun e S => Weak 1 e S (upd (upd (upd (fun _ => .junk) 2 (intsV ps)) 10 (.ptr 1 0)) 12 (.ptr 3 0)) [XD d', .cells [.ptr 0 0, .it .i64 2, .sl (.own 2) []], .buf 0 9 1, .cells [.ptr 0 0, .ptr 1 0, intsV ps, .it .i64 0, .sl .full [], .mp 4, .mp 5, .ws 6 0 3 3, .bo false], .map [], .map [], .cells [.it .i64 0, .it .i64 0, .it .i64 0]]) ?_ ?_
 ·intro K hK
  refine HW.raw [52] [] (by decide) (by kernel_rfl) ?_
  refine rw_free 0 rfl rfl rfl rfl (by kernel_rfl) (by kernel_rfl) ?_
  refine runf @h3 ?_
  refine rw_free 1 rfl rfl rfl rfl (by kernel_rfl) (by kernel_rfl) ?_
  refine runf @h3 ?_
  refine rw_free 2 rfl rfl rfl rfl (by kernel_rfl) (by kernel_rfl) ?_
  refine runf @h3 ?_
  refine rw_free 3 rfl rfl rfl rfl (by kernel_rfl) (by kernel_rfl) ?_
  refine runf @h3 ?_
  refine cp k3 ?_
  refine run ?_
  refine rw_free 4 rfl rfl rfl rfl (by kernel_rfl) (by kernel_rfl) ?_
  refine runf @h3 ?_
  refine rw_free 7 rfl rfl rfl rfl (by kernel_rfl) (by kernel_rfl) ?_
  refine runf @h3 ?_
  refine rw_free 8 rfl rfl rfl rfl (by kernel_rfl) (by kernel_rfl) ?_
  refine runf @h3 ?_
  refine rw_3 (i := 5) (j := 6) (m := 9) (by kernel_rfl) ?_ ?_ ?_
  ·refine ⟨_, rfl, rfl, ?_⟩
   refine runf @h3 ?_
   refine rw_2 (i := 6) (j := 9) (by kernel_rfl) ?_ ?_
   ·refine ⟨_, rfl, rfl, ?_⟩
    refine runf @h3 ?_
    refine rw_1 (i := 9) (by kernel_rfl) ?_
    refine ⟨_, rfl, rfl, ?_⟩
    refine runf @h3 ?_
    refine rw_1 (i := 10) (by kernel_rfl) ?_
    refine ⟨_, rfl, rfl, ?_⟩
    refine runf @h3 ?_
    refine rw_1 (i := 11) (by kernel_rfl) ?_
    refine ⟨_, rfl, rfl, ?_⟩
    refine runf @h3 ?_
    refine rw_1 (i := 12) (by kernel_rfl) ?_
    refine ⟨_, rfl, rfl, ?_⟩
    refine runf @h3 ?_
    refine ⟨by kernel_rfl, hK _ _ ?_⟩
    exact Weak.sub 1 [0, 1, 2, 6, 3, 4, 5] ((((KeepR.nil _ _).cons 2 (intsV ps) (intsV ps) rfl rfl (by rfl)).cons 10 (.ptr 1 0) (.ptr 1 0) rfl rfl (by rfl)).cons 12 (.ptr 3 0) (.ptr 6 0) rfl rfl (by rfl)) (iop_sub rfl (by decide) rfl rfl rfl rfl rfl rfl rfl) rfl
   ·refine ⟨_, rfl, rfl, ?_⟩
    refine runf @h3 ?_
    refine rw_1 (i := 6) (by kernel_rfl) ?_
    refine ⟨_, rfl, rfl, ?_⟩
    refine runf @h3 ?_
    refine rw_1 (i := 10) (by kernel_rfl) ?_
    refine ⟨_, rfl, rfl, ?_⟩
    refine runf @h3 ?_
    refine rw_1 (i := 11) (by kernel_rfl) ?_
    refine ⟨_, rfl, rfl, ?_⟩
    refine runf @h3 ?_
    refine rw_1 (i := 12) (by kernel_rfl) ?_
    refine ⟨_, rfl, rfl, ?_⟩
    refine runf @h3 ?_
    refine ⟨by kernel_rfl, hK _ _ ?_⟩
    exact Weak.sub 1 [0, 1, 2, 6, 3, 5, 4] ((((KeepR.nil _ _).cons 2 (intsV ps) (intsV ps) rfl rfl (by rfl)).cons 10 (.ptr 1 0) (.ptr 1 0) rfl rfl (by rfl)).cons 12 (.ptr 3 0) (.ptr 6 0) rfl rfl (by rfl)) (iop_sub rfl (by decide) rfl rfl rfl rfl rfl rfl rfl) rfl
  ·refine ⟨_, rfl, rfl, ?_⟩
   refine runf @h3 ?_
   refine rw_2 (i := 5) (j := 9) (by kernel_rfl) ?_ ?_
   ·refine ⟨_, rfl, rfl, ?_⟩
    refine runf @h3 ?_
    refine rw_1 (i := 9) (by kernel_rfl) ?_
    refine ⟨_, rfl, rfl, ?_⟩
    refine runf @h3 ?_
    refine rw_1 (i := 10) (by kernel_rfl) ?_
    refine ⟨_, rfl, rfl, ?_⟩
    refine runf @h3 ?_
    refine rw_1 (i := 11) (by kernel_rfl) ?_
    refine ⟨_, rfl, rfl, ?_⟩
    refine runf @h3 ?_
    refine rw_1 (i := 12) (by kernel_rfl) ?_
    refine ⟨_, rfl, rfl, ?_⟩
    refine runf @h3 ?_
    refine ⟨by kernel_rfl, hK _ _ ?_⟩
    exact Weak.sub 1 [0, 1, 2, 6, 4, 3, 5] ((((KeepR.nil _ _).cons 2 (intsV ps) (intsV ps) rfl rfl (by rfl)).cons 10 (.ptr 1 0) (.ptr 1 0) rfl rfl (by rfl)).cons 12 (.ptr 3 0) (.ptr 6 0) rfl rfl (by rfl)) (iop_sub rfl (by decide) rfl rfl rfl rfl rfl rfl rfl) rfl
   ·refine ⟨_, rfl, rfl, ?_⟩
    refine runf @h3 ?_
    refine rw_1 (i := 5) (by kernel_rfl) ?_
    refine ⟨_, rfl, rfl, ?_⟩
    refine runf @h3 ?_
    refine rw_1 (i := 10) (by kernel_rfl) ?_
    refine ⟨_, rfl, rfl, ?_⟩
    refine runf @h3 ?_
    refine rw_1 (i := 11) (by kernel_rfl) ?_
    refine ⟨_, rfl, rfl, ?_⟩
    refine runf @h3 ?_
    refine rw_1 (i := 12) (by kernel_rfl) ?_
    refine ⟨_, rfl, rfl, ?_⟩
    refine runf @h3 ?_
    refine ⟨by kernel_rfl, hK _ _ ?_⟩
    exact Weak.sub 1 [0, 1, 2, 6, 5, 3, 4] ((((KeepR.nil _ _).cons 2 (intsV ps) (intsV ps) rfl rfl (by rfl)).cons 10 (.ptr 1 0) (.ptr 1 0) rfl rfl (by rfl)).cons 12 (.ptr 3 0) (.ptr 6 0) rfl rfl (by rfl)) (iop_sub rfl (by decide) rfl rfl rfl rfl rfl rfl rfl) rfl
  ·refine ⟨_, rfl, rfl, ?_⟩
   refine runf @h3 ?_
   refine rw_2 (i := 5) (j := 6) (by kernel_rfl) ?_ ?_
   ·refine ⟨_, rfl, rfl, ?_⟩
    refine runf @h3 ?_
    refine rw_1 (i := 6) (by kernel_rfl) ?_
    refine ⟨_, rfl, rfl, ?_⟩
    refine runf @h3 ?_
    refine rw_1 (i := 10) (by kernel_rfl) ?_
    refine ⟨_, rfl, rfl, ?_⟩
    refine runf @h3 ?_
    refine rw_1 (i := 11) (by kernel_rfl) ?_
    refine ⟨_, rfl, rfl, ?_⟩
    refine runf @h3 ?_
    refine rw_1 (i := 12) (by kernel_rfl) ?_
    refine ⟨_, rfl, rfl, ?_⟩
    refine runf @h3 ?_
    refine ⟨by kernel_rfl, hK _ _ ?_⟩
    exact Weak.sub 1 [0, 1, 2, 6, 4, 5, 3] ((((KeepR.nil _ _).cons 2 (intsV ps) (intsV ps) rfl rfl (by rfl)).cons 10 (.ptr 1 0) (.ptr 1 0) rfl rfl (by rfl)).cons 12 (.ptr 3 0) (.ptr 6 0) rfl rfl (by rfl)) (iop_sub rfl (by decide) rfl rfl rfl rfl rfl rfl rfl) rfl
   ·refine ⟨_, rfl, rfl, ?_⟩
    refine runf @h3 ?_
    refine rw_1 (i := 5) (by kernel_rfl) ?_
    refine ⟨_, rfl, rfl, ?_⟩
    refine runf @h3 ?_
    refine rw_1 (i := 10) (by kernel_rfl) ?_
    refine ⟨_, rfl, rfl, ?_⟩
    refine runf @h3 ?_
    refine rw_1 (i := 11) (by kernel_rfl) ?_
    refine ⟨_, rfl, rfl, ?_⟩
    refine runf @h3 ?_
    refine rw_1 (i := 12) (by kernel_rfl) ?_
    refine ⟨_, rfl, rfl, ?_⟩
    refine runf @h3 ?_
    refine ⟨by kernel_rfl, hK _ _ ?_⟩
    exact Weak.sub 1 [0, 1, 2, 6, 5, 4, 3] ((((KeepR.nil _ _).cons 2 (intsV ps) (intsV ps) rfl rfl (by rfl)).cons 10 (.ptr 1 0) (.ptr 1 0) rfl rfl (by rfl)).cons 12 (.ptr 3 0) (.ptr 6 0) rfl rfl (by rfl)) (iop_sub rfl (by decide) rfl rfl rfl rfl rfl rfl rfl) rfl
 intro e S hw
 refine HW.weak hw ?_
 refine HW.seq (HW.weak (Weak.reserveRow 1 3 4 (by rfl) (by rfl) 58 (sz := 3) (by decide)) (HW.aw [42] [] (by decide) (by kernel_rfl) ?_))
 refine zev ?_
 refine runf @h3 ?_
 refine loop_mk (fun m e S => e 10 = .ptr 1 0 ∧ e 12 = .ptr 3 0 ∧ e 54 = .it .i64 3 ∧ ∃ (k : Nat) (F : List AV), e 55 = .it .i64 (k : Int) ∧ S = [XD d', .cells [.ptr 0 0, .it .i64 2, .sl (.own 2) []], .buf 0 9 1, .cells [.ptr 0 0, .ptr 1 0, intsV ps, .it .i64 0, .wr 7 k none, .mp 4, .mp 5, .ws 6 0 3 3, .bo false], .map [], .map [], .cells [.it .i64 0, .it .i64 0, .it .i64 0], .row F 58 3] ∧ (k = 0 ∧ F = [] ∨ k = 1 ∧ F = mirC ⟨0, [], []⟩ ∨ k = 2 ∧ F = mirC ⟨0, [], []⟩ ++ mirC ⟨1, [], []⟩ ∨ k = 3 ∧ F = mirC ⟨0, [], []⟩ ++ mirC ⟨1, [], []⟩ ++ mirC ⟨2, [], []⟩) ∧ m = 3 - k) 3 ⟨zsl, zsl, zsl, 0, [], zsl, rfl, .inl ⟨rfl, rfl⟩, rfl⟩ ?_
 rintro m e S ⟨s10, s12, s54, k, F, s55, rfl, hk, rfl⟩
 rcases hk with ⟨rfl, rfl⟩ | ⟨rfl, rfl⟩ | ⟨rfl, rfl⟩ | ⟨rfl, rfl⟩
 ·refine runf (an @s10 (an @s12 (an @s54 @s55))) ?_
  refine cp m0 ?_
  refine runf (an @s10 (an @s12 (an @s54 (an @s55 @hfl)))) ?_
  exact round_mk 2 (by omega) ⟨zsl, zsl, zsl, 1, _, zsl, rfl, .inr (.inl ⟨rfl, rfl⟩), rfl⟩
 ·refine runf (an @s10 (an @s12 (an @s54 @s55))) ?_
  refine cp m1 ?_
  refine runf (an @s10 (an @s12 (an @s54 (an @s55 @hfl)))) ?_
  exact round_mk 1 (by omega) ⟨zsl, zsl, zsl, 2, _, zsl, rfl, .inr (.inr (.inl ⟨rfl, rfl⟩)), rfl⟩
 ·refine runf (an @s10 (an @s12 (an @s54 @s55))) ?_
  refine cp m2 ?_
  refine runf (an @s10 (an @s12 (an @s54 (an @s55 @hfl)))) ?_
  exact round_mk 0 (by omega) ⟨zsl, zsl, zsl, 3, _, zsl, rfl, .inr (.inr (.inr ⟨rfl, rfl⟩)), rfl⟩
 ·refine runf (an @s10 (an @s12 (an @s54 @s55))) ?_
  refine HW.weak (Weak.sub 1 [0, 1, 2, 3, 7, 4, 5, 6] (((KeepR.nil _ _).cons 10 (.ptr 1 0) (.ptr 1 0) rfl rfl (by exact s10)).cons 12 (.ptr 3 0) (.ptr 3 0) rfl rfl (by exact s12)) (S' := XB ⟨ps, d', [], ⟨1, [], []⟩, ⟨2, [], []⟩, none, 0, 0, false⟩) ⟨by decide, rfl, fun i o hi => by
   match i, hi with
   | 0, hi => cases hi; exact ⟨rfl, rfl⟩
   | 1, hi => cases hi; exact ⟨rfl, rfl⟩
   | 2, hi => cases hi; exact ⟨rfl, rfl⟩
   | 3, hi => cases hi; exact ⟨rfl, rfl⟩
   | 4, hi => cases hi; exact ⟨rfl, rfl⟩
   | 5, hi => cases hi; exact ⟨rfl, rfl⟩
   | 6, hi => cases hi; exact ⟨rfl, rfl⟩
   | 7, hi => cases hi; exact ⟨rfl, rfl⟩⟩ rfl) ?_
  refine HW.seq (HW.aw [] [] (by decide) (by kernel_rfl) ?_)
  refine zev ?_
  refine run ?_
  refine clg 0 1 2 k4 ?_ (hl := xb_log ⟨ps, d', [], ⟨1, [], []⟩, ⟨2, [], []⟩, none, 0, 0, false⟩ [])
  refine run ?_
  refine call_mk k5 ?_
  refine run ?_
  refine HW.aw [] [] (by decide) (by kernel_rfl) ?_
  refine zev ?_
  refine run ?_
  exact ends_ret (List.range 8) (by rfl) (xb_same ⟨ps, d', [], ⟨1, [], []⟩, ⟨2, [], []⟩, none, 0, 0, false⟩) (by rfl) (by rfl) (by rfl)
end Go.Proofs.YtleljbiejeofgaaGreatDoor.Pe
end
section
namespace Go.Proofs
open Go.Shelf
def Tryz.keysA_ren : Go.Shelf.Ren := ⟨fun | 7 => 50 | 10 => 95 | n => n, fun | 23 => 95 | 26 => 3 | 3 => 42 | 28 => 122 | 0 => 0 | 27 => 121 | 33 => 101 | 4 => 4 | n => n, fun | n => n⟩
theorem Tryz.keysA : Go.Proofs.SlLaysZI.n7 Tryz.prog Tryz.keysA_ren := {
  mixed := by kernel_rfl
  f7 := ⟨Tryz.f50.name, by decide, Tryz.func50.trans (congrArg some (by kernel_rfl))⟩
  f10 := ⟨Tryz.f95.name, by decide, Tryz.func95.trans (congrArg some (by kernel_rfl))⟩
  t0 := Tryz.underlying0
  a0 := Tryz.isAgg0
  z0 := Tryz.sizeOf0
  v0 := Tryz.zeroValue0
  t4 := Tryz.underlying4
  a4 := Tryz.isAgg4
  z4 := Tryz.sizeOf4
  v4 := Tryz.zeroValue4
  t23 := Tryz.underlying95
  a23 := Tryz.isAgg95
  z23 := Tryz.sizeOf95
  v23 := Tryz.zeroValue95
  t26 := Tryz.underlying3
  a26 := Tryz.isAgg3
  z26 := Tryz.sizeOf3
  v26 := Tryz.zeroValue3
  t27 := Tryz.underlying121
  a27 := Tryz.isAgg121
  z27 := Tryz.sizeOf121
  v27 := Tryz.zeroValue121
  t28 := Tryz.underlying122
  a28 := Tryz.isAgg122
  z28 := Tryz.sizeOf122
  v28 := Tryz.zeroValue122
  t33 := Tryz.underlying101
  a33 := Tryz.isAgg101
  z33 := Tryz.sizeOf101
  v33 := Tryz.zeroValue101 }
def Tryz.sortedA_ren : Go.Shelf.Ren := ⟨fun | 6 => 49 | 8 => 93 | 9 => 94 | 11 => 139 | 13 => 141 | 12 => 140 | 23 => 188 | 24 => 126 | 14 => 179 | 15 => 180 | 16 => 181 | 17 => 182 | 18 => 183 | 19 => 184 | 20 => 185 | 21 => 186 | 22 => 187 | 25 => 217 | 26 => 218 | 27 => 219 | 28 => 220 | 29 => 221 | 30 => 222 | 31 => 251 | n => n, fun | 26 => 3 | 28 => 122 | 24 => 22 | 0 => 0 | 3 => 3 | 37 => 202 | 48 => 198 | 50 => 195 | 4 => 4 | 40 => 254 | 39 => 253 | 45 => 259 | 5 => 5 | 9 => 9 | 51 => 281 | 55 => 285 | 57 => 298 | 58 => 299 | 33 => 101 | n => n, fun | n => n⟩
theorem Tryz.sortedA : Go.Proofs.SlLaysZI.n6 Tryz.prog Tryz.sortedA_ren := {
  mixed := by kernel_rfl
  f6 := ⟨Tryz.f49.name, by decide, Tryz.func49.trans (congrArg some (by kernel_rfl))⟩
  f8 := ⟨Tryz.f93.name, by decide, Tryz.func93.trans (congrArg some (by kernel_rfl))⟩
  f11 := ⟨Tryz.f139.name, by decide, Tryz.func139.trans (congrArg some (by kernel_rfl))⟩
  t0 := Tryz.underlying0
  a0 := Tryz.isAgg0
  z0 := Tryz.sizeOf0
  v0 := Tryz.zeroValue0
  t24 := Tryz.underlying22
  a24 := Tryz.isAgg22
  z24 := Tryz.sizeOf22
  v24 := Tryz.zeroValue22
  t26 := Tryz.underlying3
  a26 := Tryz.isAgg3
  z26 := Tryz.sizeOf3
  v26 := Tryz.zeroValue3
  t28 := Tryz.underlying122
  a28 := Tryz.isAgg122
  z28 := Tryz.sizeOf122
  v28 := Tryz.zeroValue122
  i26 := by kernel_rfl }
def Tryz.sortA_ren : Go.Shelf.Ren := ⟨fun | 5 => 94 | 8 => 141 | 7 => 140 | 19 => 188 | 20 => 126 | 10 => 179 | 11 => 180 | 12 => 181 | 13 => 182 | 14 => 183 | 15 => 184 | 16 => 185 | 17 => 186 | 18 => 187 | 30 => 217 | 31 => 218 | 32 => 219 | 33 => 220 | 34 => 221 | 35 => 222 | 40 => 251 | n => n, fun | 23 => 22 | 25 => 3 | 3 => 3 | 32 => 202 | 22 => 22 | 0 => 0 | 44 => 198 | 46 => 195 | 4 => 4 | 36 => 254 | 35 => 253 | 41 => 259 | 5 => 5 | 9 => 9 | 53 => 281 | 57 => 285 | 63 => 298 | 64 => 299 | n => n, fun | n => n⟩
theorem Tryz.sortA : Go.Proofs.SlLaysM.n5 Tryz.prog Tryz.sortA_ren := {
  mixed := by kernel_rfl
  f5 := ⟨Tryz.f94.name, by decide, Tryz.func94.trans (congrArg some (by kernel_rfl))⟩
  f7 := ⟨Tryz.f140.name, by decide, Tryz.func140.trans (congrArg some (by kernel_rfl))⟩
  f8 := Tryz.func141.trans (congrArg some (by kernel_rfl))
  f10 := ⟨Tryz.f179.name, by decide, Tryz.func179.trans (congrArg some (by kernel_rfl))⟩
  f11 := ⟨Tryz.f180.name, by decide, Tryz.func180.trans (congrArg some (by kernel_rfl))⟩
  f12 := ⟨Tryz.f181.name, by decide, Tryz.func181.trans (congrArg some (by kernel_rfl))⟩
  f13 := ⟨Tryz.f182.name, by decide, Tryz.func182.trans (congrArg some (by kernel_rfl))⟩
  f14 := ⟨Tryz.f183.name, by decide, Tryz.func183.trans (congrArg some (by kernel_rfl))⟩
  f15 := ⟨Tryz.f184.name, by decide, Tryz.func184.trans (congrArg some (by kernel_rfl))⟩
  f16 := ⟨Tryz.f185.name, by decide, Tryz.func185.trans (congrArg some (by kernel_rfl))⟩
  f17 := ⟨Tryz.f186.name, by decide, Tryz.func186.trans (congrArg some (by kernel_rfl))⟩
  f18 := ⟨Tryz.f187.name, by decide, Tryz.func187.trans (congrArg some (by kernel_rfl))⟩
  f19 := Tryz.func188.trans (congrArg some (by kernel_rfl))
  f20 := Tryz.func126.trans (congrArg some (by kernel_rfl))
  f30 := ⟨Tryz.f217.name, by decide, Tryz.func217.trans (congrArg some (by kernel_rfl))⟩
  f31 := Tryz.func218.trans (congrArg some (by kernel_rfl))
  f32 := Tryz.func219.trans (congrArg some (by kernel_rfl))
  f33 := ⟨Tryz.f220.name, by decide, Tryz.func220.trans (congrArg some (by kernel_rfl))⟩
  f34 := ⟨Tryz.f221.name, by decide, Tryz.func221.trans (congrArg some (by kernel_rfl))⟩
  f35 := ⟨Tryz.f222.name, by decide, Tryz.func222.trans (congrArg some (by kernel_rfl))⟩
  f40 := ⟨Tryz.f251.name, by decide, Tryz.func251.trans (congrArg some (by kernel_rfl))⟩
  t0 := Tryz.underlying0
  a0 := Tryz.isAgg0
  z0 := Tryz.sizeOf0
  v0 := Tryz.zeroValue0
  t3 := Tryz.underlying3
  a3 := Tryz.isAgg3
  z3 := Tryz.sizeOf3
  v3 := Tryz.zeroValue3
  t4 := Tryz.underlying4
  a4 := Tryz.isAgg4
  z4 := Tryz.sizeOf4
  v4 := Tryz.zeroValue4
  t5 := Tryz.underlying5
  a5 := Tryz.isAgg5
  z5 := Tryz.sizeOf5
  v5 := Tryz.zeroValue5
  t9 := Tryz.underlying9
  a9 := Tryz.isAgg9
  z9 := Tryz.sizeOf9
  v9 := Tryz.zeroValue9
  t22 := Tryz.underlying22
  a22 := Tryz.isAgg22
  z22 := Tryz.sizeOf22
  v22 := Tryz.zeroValue22
  t23 := Tryz.underlying22
  a23 := Tryz.isAgg22
  z23 := Tryz.sizeOf22
  v23 := Tryz.zeroValue22
  t25 := Tryz.underlying3
  a25 := Tryz.isAgg3
  z25 := Tryz.sizeOf3
  v25 := Tryz.zeroValue3
  t32 := Tryz.underlying202
  a32 := Tryz.isAgg202
  z32 := Tryz.sizeOf202
  v32 := Tryz.zeroValue202
  t35 := Tryz.underlying253
  a35 := Tryz.isAgg253
  z35 := Tryz.sizeOf253
  v35 := Tryz.zeroValue253
  t36 := Tryz.underlying254
  a36 := Tryz.isAgg254
  z36 := Tryz.sizeOf254
  v36 := Tryz.zeroValue254
  t41 := Tryz.underlying259
  a41 := Tryz.isAgg259
  z41 := Tryz.sizeOf259
  v41 := Tryz.zeroValue259
  t44 := Tryz.underlying198
  a44 := Tryz.isAgg198
  z44 := Tryz.sizeOf198
  v44 := Tryz.zeroValue198
  t46 := Tryz.underlying195
  a46 := Tryz.isAgg195
  z46 := Tryz.sizeOf195
  v46 := Tryz.zeroValue195
  t53 := Tryz.underlying281
  a53 := Tryz.isAgg281
  z53 := Tryz.sizeOf281
  v53 := Tryz.zeroValue281
  t57 := Tryz.underlying285
  a57 := Tryz.isAgg285
  z57 := Tryz.sizeOf285
  v57 := Tryz.zeroValue285
  t63 := Tryz.underlying298
  a63 := Tryz.isAgg298
  z63 := Tryz.sizeOf298
  v63 := Tryz.zeroValue298
  t64 := Tryz.underlying299
  a64 := Tryz.isAgg299
  z64 := Tryz.sizeOf299
  v64 := Tryz.zeroValue299 }
end Go.Proofs
end
section
namespace Go.Proofs.YtleljbiejeofgaaGreatDoor.Pe
open Go Go.RowKit Go.Maps Go.Sort
open Go.WideElems (Fit)
set_option maxRecDepth 100000
set_option maxHeartbeats 4000000
section
variable [Tab] {w w' : World} {g : Gh} {S : Store} {gb n : Nat}
theorem Le.belowS (g : Gh) (n : Nat) (h : Below w.heap.size w w') (hgb : w.heap.size ≤ gb) : Le w g w' (g.stab gb n) := by
 refine ⟨(Le.below g h).cell, fun b o v hb hv => ?_, Nat.le_refl _, fun _ _ => ⟨rfl, .inl ⟨rfl, rfl, rfl⟩⟩, fun b me c hg hm => ?_⟩
 ·have hlt : b < w.heap.size := World.block_lt_of_cell? w _ hv
  simp only [Gh.stab]
  rw [if_neg (show b ≠ gb by omega)]
  exact hb
 ·have hlt := (Array.getElem?_eq_some_iff.1 hm).1
  refine ⟨?_, (h.block b hlt).trans hm⟩
  simp only [Gh.stab]
  rw [if_neg (show b ≠ gb by omega)]
  exact hg
theorem WF.belowS (n : Nat) (hw : WF w g S) (h : Below w.heap.size w w') (hgb : w.heap.size ≤ gb) : WF w' (g.stab gb n) S := by
 have hle := Le.belowS g n h hgb
 refine ⟨hw.nid, fun l o hl => ?_, hw.disj, fun l b hl hb => ?_, hw.tab.le hle⟩
 ·have hlt : l < g.nid := by rw [hw.nid]; exact (List.getElem?_eq_some_iff.1 hl).1
  exact (hw.obj l o hl).keep hle rfl rfl rfl rfl rfl (fun b hb => if_neg (by have := hw.lt l b hlt hb; omega)) (fun b hb => h.block b (hw.lt l b hlt hb))
 ·have := hw.lt l b hl hb
  have := h.size
  omega
theorem Evo.belowS (g : Gh) (n : Nat) (h : Below w.heap.size w w') (hgb : w.heap.size ≤ gb) : Evo w g w' (g.stab gb n) :=
 ⟨Le.belowS g n h hgb, h.os, h.tape, h.output, h.size, fun b hb _ => h.block b hb, fun _ _ hl hb _ => ⟨hl, hb⟩, fun b hb _ => if_neg (by omega)⟩
end
abbrev keyM (va : AV) (acc : List Int) : SObj := .map (acc.map fun s => (.it .i64 s, va))
theorem owns_of {P : Program} {k : TypeId} (hk : P.underlying k = some (.int .i64)) {w : World} {g : Gh} {b : Nat} {va : AV} {acc : List Int} {me : Array MapEntry} {clock : Nat} (hb : w.heap[b]? = some (.map me clock)) (he : EsOk w g (acc.map fun s => (.it .i64 s, va)) me clock)
  (hn : acc.Nodup) (hl : acc.length ≤ 1000000) (hr : ∀ s ∈ acc, -9223372036854775808 ≤ s ∧ s ≤ 9223372036854775807) :
  ∃ D : DataW Unit, w.ownsMap P k (fun _ => some (.lit (.bool true), [])) b 1000000 D ∧ (intKeys D).Perm acc ∧ Maps.size D = acc.length := by
 obtain ⟨h1, h2, h3, h4⟩ := he
 rw [List.length_map] at h1
 have hkey : ∀ (j : Nat) x, me[j]? = some x → ∃ s, acc[j]? = some s ∧ x.key = .int .i64 s := fun j x hx => by
  have hj : j < acc.length := by have := (Array.getElem?_eq_some_iff.1 hx).1; omega
  refine ⟨acc[j], List.getElem?_eq_getElem hj, ?_⟩
  have := (h4 j (.it .i64 acc[j], va) x (by rw [List.getElem?_map, List.getElem?_eq_getElem hj]; rfl) hx).1
  generalize x.key = y at this
  cases this
  rfl
 have hkl : ∀ (j : Nat) x, me[j]? = some x → ∃ s, acc[j]? = some s ∧ Go.WideElems.rd P k (fun _ => some ((.lit (.bool true) : DataW Unit), [])) x = some (.int .i64 s, .lit (.bool true)) := fun j x hx => by
  obtain ⟨s, hs, hxk⟩ := hkey j x hx
  refine ⟨s, hs, ?_⟩
  have hw := hr s (List.mem_of_getElem? hs)
  obtain ⟨key, val, born⟩ := x
  simp only at hxk
  subst hxk
  refine Go.WideElems.rd_mk (yv := (.lit (.bool true), [])) (keyOf_int_mk hk ?_) rfl
  have e1 : IntKind.i64.min = -9223372036854775808 := by decide
  have e2 : IntKind.i64.max = 9223372036854775807 := by decide
  simp only [Lit.wf, Bool.and_eq_true, decide_eq_true_eq, e1, e2]
  exact hw
 have hkeys : me.toList.map (·.key) = acc.map fun s => Value.int .i64 s := by
  apply List.ext_getElem?
  intro j
  rw [List.getElem?_map, List.getElem?_map]
  cases hx : me.toList[j]? with
  | none =>
   have : acc[j]? = none := by
    rw [List.getElem?_eq_none_iff] at hx ⊢
    simp only [Array.length_toList] at hx
    omega
   rw [this]; rfl
  | some x =>
   obtain ⟨s, hs, hxk⟩ := hkey j x (by simpa using hx)
   rw [hs]
   simp [hxk]
 have hrgs : me.toList.map (Go.WideElems.rg P k (fun _ => some ((.lit (.bool true) : DataW Unit), []))) = acc.map fun s => (Lit.int .i64 s, .lit (.bool true)) := by
  apply List.ext_getElem?
  intro j
  rw [List.getElem?_map, List.getElem?_map]
  cases hx : me.toList[j]? with
  | none =>
   have : acc[j]? = none := by
    rw [List.getElem?_eq_none_iff] at hx ⊢
    simp only [Array.length_toList] at hx
    omega
   rw [this]; rfl
  | some x =>
   obtain ⟨s, hs, hxr⟩ := hkl j x (by simpa using hx)
   rw [hs, Option.map_some, Option.map_some, Go.WideElems.rg_of hxr]
 have hfit : Fit P k (fun _ => some ((.lit (.bool true) : DataW Unit), [])) me clock := by
  refine ⟨by unfold maxLen; omega, ⟨h2, h3, ?_⟩, fun x hx => ?_⟩
  ·rw [hkeys]
   rw [List.nodup_iff_pairwise_ne, List.pairwise_map]
   exact (List.nodup_iff_pairwise_ne.1 hn).imp fun h e => h (by cases e; rfl)
  ·obtain ⟨j, hj⟩ := List.mem_iff_getElem?.1 hx
   obtain ⟨s, _, hxr⟩ := hkl j x (by simpa using hj)
   exact ⟨_, hxr⟩
 refine ⟨_, ⟨me, clock, hb, hfit, by omega, rfl⟩, ?_, ?_⟩
 ·rw [hrgs]
  show ((List.foldr DataW.insert [] _).map (fun p : Lit × DataW Unit => _root_.Go.intOf p.1)).Perm acc
  have hp := (Go.WideShapes.sorted_perm (acc.map fun s => ((Lit.int .i64 s, .lit (.bool true)) : Lit × DataW Unit))).map (fun p : Lit × DataW Unit => _root_.Go.intOf p.1)
  rw [List.map_map] at hp
  have e : (acc.map ((fun p : Lit × DataW Unit => _root_.Go.intOf p.1) ∘ fun s => (Lit.int .i64 s, .lit (.bool true)))) = acc := by
   rw [show ((fun p : Lit × DataW Unit => _root_.Go.intOf p.1) ∘ fun s => (Lit.int .i64 s, .lit (.bool true))) = id from funext fun s => rfl, List.map_id]
  rwa [e] at hp
 ·rw [Maps.size_eq, DataW.length_sorted, List.length_map]
  omega
theorem keyM_ok {va : AV} (hva : va.o2 0 = true) (acc : List Int) (n : Nat) : (keyM va acc).ok n = true := by
 show (List.all _ _) = true
 rw [List.all_eq_true]
 intro p hp
 obtain ⟨s, _, rfl⟩ := List.mem_map.1 hp
 show (AV.o1 n _ && AV.o2 n _) = true
 rw [o2_mono hva (Nat.zero_le n)]
 rfl
theorem keyM_ren {va : AV} (hva : va.o2 0 = true) (acc : List Int) (ρ : Nat → Nat) : (keyM va acc).ren ρ = keyM va acc := sren0 (keyM_ok hva acc 0) ρ
theorem set_self {T : Store} {l : Nat} {o : SObj} (h : T[l]? = some o) : T.set l o = T := by
 apply List.ext_getElem?
 intro i
 by_cases hi : i = l
 ·subst hi
  rw [List.getElem?_set_self (List.getElem?_eq_some_iff.1 h).1, h]
 ·rw [List.getElem?_set_ne (Ne.symm hi)]
theorem ekeys_c {va : AV} (hva : va.o2 0 = true) (acc : List Int) : AC Tryz.prog 50 [.mp 0] [keyM va acc] (.fn (.func 95) [] [.ptr 1 0]) [keyM va acc, .cells [.mp 0]] := by
 refine AC.enter [] [] Tryz.func50 rfl (by decide) (by decide) (Nat.le_of_ble_eq_true rfl) (by kernel_rfl) ?_; refine zev ?_
 refine run ?_
 exact ends_ret [0, 1] (by rfl) (subOk_two 0 1 (by decide) (keyM_ok hva acc 2) (by rfl) (by rw [keyM_ren hva]; rfl) (by rfl)) (by rfl) (by rfl) (by rfl)
theorem esorted_c {va : AV} (acc : List Int) (hn : acc.Nodup) (hl : acc.length ≤ 1000000) (hr : ∀ s ∈ acc, -9223372036854775808 ≤ s ∧ s ≤ 9223372036854775807) :
  AC Tryz.prog 49 [.fn (.func 95) [] [.ptr 1 0]] [keyM va acc, .cells [.mp 0]] (.sl .ro ((acc.mergeSort fun x y => decide (x ≤ y)).map (AV.it .i64))) [keyM va acc, .cells [.mp 0]] := by
 refine ⟨by kernel_rfl, fun w g cargs hw hargs => ?_⟩
 obtain ⟨cv, rfl, hrv⟩ := lrel_one hargs
 obtain ⟨k1, k2, k3, arr, T, fr, k4, k5, k6, k7, k8⟩ := hw.obj 1 _ rfl
 obtain ⟨m1, m2, m3, me, clock, m4, m5⟩ := hw.obj 0 _ rfl
 have hn2 : g.nid = 2 := hw.nid
 cases hrv with
 | fn _ _ _ _ fa ca hf hc hrf hrc =>
  obtain rfl : fa = #[] := Array.eq_empty_of_size_eq_zero hf
  obtain ⟨cp, rfl⟩ : ∃ cp, ca = #[cp] := by
   refine ⟨ca[0]'(by rw [hc]; simp), ?_⟩
   apply Array.ext
   ·simpa using hc
   ·intro i hi hi'
    have : i = 0 := by simp at hi'; omega
    subst this; rfl
  have hcp := hrc 0 (.ptr 1 0) cp rfl rfl
  cases hcp
  obtain ⟨mv, rfl⟩ : ∃ mv, arr = #[mv] := by
   refine ⟨arr[0]'(by rw [k6]; simp), ?_⟩
   apply Array.ext
   ·simpa using k6
   ·intro i hi hi'
    have : i = 0 := by simp at hi'; omega
    subst this; rfl
  have hmv := k8 0 (.mp 0) mv rfl rfl
  cases hmv
  have hcell : w.cell? ⟨g.pl 1, 0, none⟩ = some (.map (some (g.pl 0))) := by
   rw [cell_of_row w (g.pl 1) 0 _ T fr k4]; rfl
  obtain ⟨D, d1, d2, d3⟩ := owns_of (P := Tryz.prog) (k := 3) Tryz.underlying3 m4 m5 hn hl hr
  have hB : g.pl 1 < w.heap.size := hw.lt 1 _ (by omega) k2
  have hseq : SeqGives Fence.wide 2 Tryz.prog 95 #[.pointer (some ⟨g.pl 1, 0, none⟩)] encZ (fun ss => ss.Perm (intKeys D)) (Maps.size D) w :=
   AnyZI.keys_gives (ρ := Tryz.keysA_ren) { Tryz.keysA with } Fence.wide _ trivial rfl (by omega) (g.pl 1) (g.pl 0) 1000000 D w hB hcell d1
  have hsrt : ∀ m, AnyZI.SortsIn Tryz.prog Tryz.sortedA_ren Fence.wide m := fun m =>
   ⟨fun blk off cap ss W hH hblk hsz => callsIn_wide.2 (AnyM.slices_Sort_int Tryz.sortA blk off cap ss W hH hblk hsz), fun p cap W => callsIn_wide.2 (AnyM.slices_Sort_int_none Tryz.sortA p cap W)⟩
  have cS := AnyZI.sorted_in Tryz.sortedA Fence.wide 5 trivial trivial trivial trivial rfl (by omega) (hsrt _) (enters_of Tryz.func94 (by kernel_rfl) rfl) 95 #[.pointer (some ⟨g.pl 1, 0, none⟩)] trivial (enters_of Tryz.func95 (by kernel_rfl) rfl) _ _ (by rw [d3]; unfold maxLen; omega) (by rw [d3]; omega) _ hseq
  change CallsIn _ _ Tryz.prog 49 _ _ _ at cS
  refine (callsIn_wide.1 cS).mono ?_
  rintro r w' ⟨v, ss, rfl, hS, hrow, hnil, hb⟩
  have hss : ss.mergeSort (fun x y => decide (x ≤ y)) = acc.mergeSort fun x y => decide (x ≤ y) := mergeSort_of_perm_i (hS.trans d2)
  rw [hss] at hrow
  have hlen : ss.length = acc.length := (hS.trans d2).length_eq
  rw [hlen] at hrow
  have hll : (acc.mergeSort fun x y => decide (x ≤ y)).length = acc.length := List.length_mergeSort _
  generalize (acc.mergeSort fun x y => decide (x ≤ y)) = so at *
  rcases hrow.2 with ⟨rfl, hz⟩ | ⟨gb, cap, cur, rfl, hbase, hgb, r1, r2, r3, r4⟩
  ·obtain rfl : so = [] := List.eq_nil_of_length_eq_zero (by omega)
   exact ⟨_, g, rfl, hw.below hb, .sl _ .ro [] none 0 1 (fun _ => undef) (Nat.le_refl _) (Nat.zero_le _) (by simp) (fun h => absurd h (Nat.lt_irrefl 0)) (by simp [flat]) (by simp [flat]) trivial, Evo.below g hb⟩
  ·refine ⟨_, g.stab gb so.length, rfl, hw.belowS _ hb hbase, ?_, Evo.belowS g _ hb hbase⟩
   have hcur : ∀ j, j < so.length → cur[j]? = some (encZ (so.getD j 0)) := fun j hj => by
    have h1 : (so.map encZ)[j]? = some (encZ (so.getD j 0)) := by
     rw [List.getElem?_map, List.getD_eq_getElem?_getD, List.getElem?_eq_getElem hj]; rfl
    rw [← r4, List.getElem?_take_of_lt (by omega)] at h1
    simpa using h1
   have hfl : flat (so.map (AV.it .i64)) = so.map (AV.it .i64) := flat_ints so
   rw [← hll]
   refine Rel.sl (g.stab gb so.length) .ro (so.map (AV.it .i64)) _ cap 1 (fun j => encZ (so.getD j 0)) ?_ r2 (fun e he => ?_) (fun _ => ⟨gb, 0, rfl, fun j hj => ⟨?_, ?_⟩⟩) (fun j hj => rfl) (fun j u hu => ?_) trivial |> fun h => by rwa [List.length_map] at h
   ·rw [List.length_map]; omega
   ·obtain ⟨n, _, rfl⟩ := List.mem_map.1 he; rfl
   ·rw [hfl, List.length_map] at hj
    simp only [Gh.stab, if_true]
    omega
   ·rw [hfl, List.length_map] at hj
    rw [Nat.zero_add, cell_of_row w' gb j cur _ (0, 0) hgb]
    exact hcur j hj
   ·rw [hfl, List.getElem?_map] at hu
    obtain ⟨n, hn, rfl⟩ := Option.map_eq_some_iff.1 hu
    have : so.getD j 0 = n := by rw [List.getD_eq_getElem?_getD, hn]; rfl
    simp only [this]
    exact .it _ _ _
theorem ekeys_at {va : AV} (hva : va.o2 0 = true) {acc : List Int} {T : Store} {l : Nat} (hT : T[l]? = some (keyM va acc)) : AC Tryz.prog 50 [.mp l] T (.fn (.func 95) [] [.ptr T.length 0]) (T ++ [.cells [.mp l]]) := by
 have := (ekeys_c hva acc).frame (T := T) [l] (subOk_one l (keyM_ok hva acc 1) (by rw [keyM_ren hva]; exact hT)) rfl rfl (fun i o hi => by
  match i, hi with
  | 0, hi => cases hi; exact keyM_ok hva acc 2
  | 1, hi => cases hi; rfl)
 have e1 : after [l] T [keyM va acc, .cells [.mp 0]] = T ++ [.cells [.mp l]] := by
  unfold after
  rw [List.map_cons, keyM_ren hva]
  show T.set l (keyM va acc) ++ _ = _
  rw [set_self hT]
  rfl
 rw [e1] at this
 exact this
theorem esorted_at {va : AV} (hva : va.o2 0 = true) {acc : List Int} {T : Store} (l l' : Nat) (hne : l ≠ l') (hn : acc.Nodup) (hl : acc.length ≤ 1000000) (hr : ∀ s ∈ acc, -9223372036854775808 ≤ s ∧ s ≤ 9223372036854775807) (hT : T[l]? = some (keyM va acc)) (hT' : T[l']? = some (.cells [.mp l])) :
  AC Tryz.prog 49 [.fn (.func 95) [] [.ptr l' 0]] T (.sl .ro ((acc.mergeSort fun x y => decide (x ≤ y)).map (AV.it .i64))) T := by
 have hk : ∀ n, (AV.sl .ro ((acc.mergeSort fun x y => decide (x ≤ y)).map (AV.it .i64))).ok n = true := fun n => ok_mono (n := 0) rfl (Nat.zero_le n)
 have := (esorted_c (va := va) acc hn hl hr).frame (T := T) [l, l'] (subOk_two l l' hne (keyM_ok hva acc 2) rfl (by rw [keyM_ren hva]; exact hT) hT') rfl (hk 2) (fun i o hi => by
  match i, hi with
  | 0, hi => cases hi; exact keyM_ok hva acc 2
  | 1, hi => cases hi; rfl)
 have h2 : (T.set l (keyM va acc)).set l' (.cells [.mp l]) = T := by rw [set_self hT, set_self hT']
 rw [ren_id (hk 0) (fun i hi => absurd hi (Nat.not_lt_zero _))] at this
 have e1 : after [l, l'] T [keyM va acc, .cells [.mp 0]] = T := by
  unfold after
  rw [List.map_cons, keyM_ren hva]
  show (T.set l (keyM va acc)).set l' (.cells [.mp l]) ++ [] = _
  rw [h2, List.append_nil]
 rw [e1] at this
 exact this
end Go.Proofs.YtleljbiejeofgaaGreatDoor.Pe
end
section
namespace Go.Proofs.YtleljbiejeofgaaGreatDoor.Pe
open Go Go.RowKit Co Sg Ac It Sl Wl
set_option maxRecDepth 100000
set_option maxHeartbeats 4000000
abbrev msgB (s : Int) (b : Batch) : AV := .agg [.it .i64 0, .it .i64 s, .it .i64 0, .it .i64 b.head.server, .it .i64 b.head.size, .st b.head.root, .it .i64 b.head.time, .it .i64 b.head.sig.e, .it .i64 b.head.sig.s, .it .i64 b.frm, entriesV b.entries,
 .it .i64 0, .it .i64 0, .it .i64 0, .st [], .it .i64 0, .it .i64 0, .it .i64 0, .it .i64 0, .it .i64 0,
 .it .i64 0, .it .i64 0, .st [], .it .i64 0, .it .i64 0, .it .i64 0, .it .i64 0, .it .i64 0, .st [], .it .i64 0, .it .i64 0, .it .i64 0, .st [], .sl .ro []]
abbrev msgE (s : Int) (e : Evidence) : AV := .agg [.it .i64 2, .it .i64 s, .it .i64 0, .it .i64 0, .it .i64 0, .st [], .it .i64 0, .it .i64 0, .it .i64 0, .it .i64 0, .sl .ro [],
 .it .i64 0, .it .i64 0, .it .i64 0, .st [], .it .i64 0, .it .i64 0, .it .i64 0, .it .i64 0, .it .i64 0,
 .it .i64 e.old.server, .it .i64 e.old.size, .st e.old.root, .it .i64 e.old.time, .it .i64 e.old.sig.e, .it .i64 e.old.sig.s, .it .i64 e.new.server, .it .i64 e.new.size, .st e.new.root, .it .i64 e.new.time, .it .i64 e.new.sig.e, .it .i64 e.new.sig.s, .st e.root, sls e.link]
theorem entries47_c (l : List Int) (hl : l.length ≤ 1000) (hr : ∀ x ∈ l, -9223372036854775808 ≤ x ∧ x ≤ 9223372036854775807) : AC Tryz.prog 9 [intsV l] [] (entriesV (ents l)) [] := by
 have hsz : allSz 1 (l.map (AV.it .i64)) = true := allSz_map 1 _ (fun _ => rfl) _
 refine AC.enter2 [11, 25] [] Tryz.func9 rfl (by decide) (by decide) (Nat.le_of_ble_eq_true rfl) (by kernel_rfl) ?_; refine zev ?_
 refine run ?_
 refine loop_mk' (fun m e S => e 0 = intsV l ∧ ∃ (k : Nat) (t : Int) (acc : List It.Entry), e 5 = .it .i64 (k : Int) ∧ e 4 = .it .i64 t ∧ e 3 = .sl (.own 0) (acc.map entryV) ∧ S = [.buf acc.length 92 50] ∧ acc.length = k ∧ ents l = acc ++ entsT t (l.drop k) ∧ 0 ≤ t ∧ t ≤ 3 * k ∧ k ≤ l.length ∧ m = l.length - k) l.length _ _ (Weak.reserve 0 3 (es := []) (by rfl) 92 50)
  ⟨zsl, 0, 0, [], zsl, zsl, zsl, rfl, rfl, rfl, by omega, by omega, by omega, rfl⟩ ?_
 rintro m e S ⟨s0, k, t, acc, s5, s4, s3, rfl, hal, hen, ht0, ht1, hk, rfl⟩
 by_cases hlt : k < l.length
 ·have hg : l[k]? = some l[k] := List.getElem?_eq_getElem hlt
  have hx := hr l[k] (List.getElem_mem hlt)
  have hdr : l.drop k = l[k] :: l.drop (k + 1) := List.drop_eq_getElem_cons hlt
  rw [hdr, entsT] at hen
  have p3 := pick_in (n := l[k]) (m := 3) (by decide)
  have p1 := pick_in (n := l[k]) (m := 1000) (by decide)
  have kp := pick47_c l[k] 3 hx (by decide)
  have kq := pick47_c l[k] 1000 hx (by decide)
  have ko := one47_c (pickN47 l[k] 1000) (by omega)
  generalize pickN47 l[k] 3 = p at *
  generalize pickN47 l[k] 1000 = q at *
  generalize oneI q = I at *
  generalize l[k] = x at *
  have hw : IntKind.i64.wrap (t + p) = t + p := wrap64 (by omega) (by omega)
  have hsz3 := entries_sz acc
  have hft : fits (k + 1) 800 = true := by apply fits_ok <;> omega
  have hlt' : (k : Int) < (l.length : Int) := by omega
  refine runf (an @s0 (an @s5 (an @s4 (an @s3 (an @hg (an @hsz (an @hw @hlt'))))))) ?_
  refine cp kp ?_
  refine runf (an @s0 (an @s5 (an @s4 (an @s3 (an @hg (an @hsz (an @hw @hlt'))))))) ?_
  refine cp kq ?_
  refine runf (an @s0 (an @s5 (an @s4 (an @s3 (an @hg (an @hsz (an @hw @hlt'))))))) ?_
  refine cp ko ?_
  refine runf (an @s0 (an @s5 (an @s4 (an @s3 (an @hg (an @hsz (an @hw (an @hft (an @hal @hsz3))))))))) ?_
  exact round_mk (l.length - (k + 1)) (by omega) ⟨zsl, k + 1, t + p, acc ++ [⟨t + p, I⟩], zsl, zsl, by rw [List.map_append]; exact zsl, by rw [List.length_append, hal]; rfl, by rw [List.length_append, hal]; rfl, by rw [hen, List.append_assoc]; rfl, by omega, by omega, by omega, rfl⟩
 ·obtain rfl : k = l.length := by omega
  rw [List.drop_length, entsT, List.append_nil] at hen
  rw [hen]
  refine runf (an @s0 (an @s5 (an @s4 @s3))) ?_
  exact er0w
theorem batch47_c (s : Nat) (hs : s = 1 ∨ s = 2) (l : List It.Entry) (hl : l.length ≤ 1000000) (hz : ∀ e ∈ l, Iz e.item) (frm t : Nat) (h1 : frm < t) (h2 : t ≤ l.length) :
  AC Tryz.prog 12 [.it .i64 (s : Int), entriesV l, .it .i64 (frm : Int), .it .i64 (t : Int)] [] (msgB s ⟨headTo (iKey s) s l t, frm, (l.take t).drop frm⟩) [] := by
 have kk := ikey_c s (by omega)
 have kh := shead_c (iKey s) s (l.take t) (lastTime l t) (iKey_range s) (by rw [List.length_take]; omega) (fun e he => hz e (List.mem_of_mem_take he))
 change AC _ _ _ _ (headV (headTo (iKey s) s l t)) _ at kh
 generalize headTo (iKey s) s l t = hd at *
 generalize iKey s = ky at *
 have hsz : allSz 50 (l.map entryV) = true := entries_sz l
 have hg : l[t - 1]? = some (l[t - 1]'(by omega)) := List.getElem?_eq_getElem (by omega)
 have hti : lastTime l t = (l[t - 1]'(by omega)).time := by
  unfold lastTime
  rw [List.getD_eq_getElem?_getD, hg]
  rfl
 rw [hti] at kh
 clear hti
 generalize (l[t - 1]'(by omega)) = x at *
 have e1 : (t : Int) - 1 = ((t - 1 : Nat) : Int) := by omega
 have hw : IntKind.i64.wrap ((t : Int) - 1) = ((t - 1 : Nat) : Int) := by rw [wrap64 (by omega) (by omega)]; exact e1
 refine AC.enter [15, 14] [] Tryz.func12 rfl (by decide) (by decide) (Nat.le_of_ble_eq_true rfl) (by kernel_rfl) ?_; refine zev ?_
 refine runf (an @hg (an @hsz (an @hw @e1))) ?_
 refine cp kk ?_
 refine runf (an @hg (an @hsz (an @hw @e1))) ?_
 refine cp kh ?_
 refine runf (an @hg (an @hsz (an @hw @e1))) ?_
 exact er0w
end Go.Proofs.YtleljbiejeofgaaGreatDoor.Pe
end
section
namespace Go.Proofs.YtleljbiejeofgaaGreatDoor.Pe
open Go Go.RowKit Co Sg Ac It Sl Wl
set_option maxRecDepth 100000
set_option maxHeartbeats 8000000
def Bx.mi (b : Bx) (s : Int) : Mirror := if s = 1 then b.m1 else b.m2
structure Okb (b : Bx) (bt : Batch) : Prop where
 ps3 : b.ps.length = 3
 inl : InL b.ps
 srv : bt.head.server = 1 ∨ bt.head.server = 2
 ne : bt.entries ≠ []
 len : bt.entries.length ≤ 20
 cz : ∀ e ∈ bt.entries, Cz e.item
 ok : EOk bt.entries
 frm : 0 ≤ bt.frm ∧ bt.frm ≤ 1000
 me : EOk (b.mi bt.head.server).entries
 ml : (b.mi bt.head.server).entries.length ≤ 900000
 mh : (b.mi bt.head.server).heads.length ≤ 1000000
theorem itakeB_conv (b : Bx) (f : Int) (bt : Batch) (h : Okb b bt) (hp : b.pf.isSome = true) (hs : bt.head.server = 1) : AC Tryz.prog 26 [.ptr 3 0, msgB f bt] (XB b) (.it .i64 5) (XB b) := by
 have k1 := bcopy_c bt h.ne (by have := h.len; omega) h.cz
 have k2 := iother_c b h.ps3 1
 rw [decide_eq_true (.inl rfl)] at k2
 have k3 := iconv_c b 1
 rw [hp, decide_eq_true rfl] at k3
 change AC _ _ _ _ (.bo true) _ at k3
 obtain ⟨ps, d, rows, m1, m2, pf, c1, c2, lo⟩ := b
 obtain ⟨⟨srv, size, root, time, ⟨se, ss⟩⟩, frm, en⟩ := bt
 simp only at hs hp k1
 subst hs
 refine AC.enter2 [57, 59, 61, 62] [29, 58] Tryz.func26 rfl (by decide) (by decide) (Nat.le_of_ble_eq_true rfl) (by kernel_rfl) ?_; refine zev ?_
 refine run ?_
 refine cp k1 ?_
 refine run ?_
 refine call_mk ⟨fun R => AC.bx k2 _, rfl⟩ ?_
 refine run ?_
 refine call_mk ⟨fun R => AC.bx k3 _, rfl⟩ ?_
 refine run ?_
 exact ends_ret (List.range 8) (by rfl) (xb_sub ⟨ps, d, rows, m1, m2, pf, c1, c2, lo⟩ _) (by rfl) (by rfl) (by rfl)
theorem itakeB_same1 (b : Bx) (f : Int) (bt : Batch) (h : Okb b bt) (hs : bt.head.server = 1) (hp : b.pf = none ∨ 1 ≠ (1 : Nat)) {m' : Mirror} (ht : Sl.take b.ps b.m1 bt = (m', 0)) (hl : m'.entries.length ≤ b.m1.entries.length) : AC Tryz.prog 26 [.ptr 3 0, msgB f bt] (XB b) (.it .i64 0) (XB b) := by
 have k1 := bcopy_c bt h.ne (by have := h.len; omega) h.cz
 have k2 := iother_c b h.ps3 1
 rw [decide_eq_true (by decide)] at k2
 have k3 := iconv_c b 1
 rw [show (b.pf.isSome && decide ((1 : Int) = 1)) = false by rcases hp with hp | hp <;> simp [hp] at *] at k3
 have k4 := mtake_c b.ps b.m1 bt h.inl (by have := h.me; rwa [hs] at this) (by have := h.ml; rwa [hs] at this) (by have := h.mh; rwa [hs] at this) h.ok ⟨by have := h.frm; omega, by have := h.frm; omega⟩
 rw [ht] at k4
 obtain ⟨ps, d, rows, m1, m2, pf, c1, c2, lo⟩ := b
 obtain ⟨⟨srv, size, root, time, ⟨se, ss⟩⟩, frm, en⟩ := bt
 obtain ⟨ns, ne, nh⟩ := m'
 simp only at hs k1 k4
 subst hs
 refine AC.enter2 [57, 59, 61, 62] [29, 58] Tryz.func26 rfl (by decide) (by decide) (Nat.le_of_ble_eq_true rfl) (by kernel_rfl) ?_; refine zev ?_
 refine run ?_
 refine cp k1 ?_
 refine run ?_
 refine call_mk ⟨fun R => AC.bx k2 _, rfl⟩ ?_
 refine run ?_
 refine call_mk ⟨fun R => AC.bx k3 _, rfl⟩ ?_
 refine run ?_
 simp only at hl
 have hl' : ¬ (ne.length : Int) > (m1.entries.length : Int) := by omega
 refine cp k4 ?_
 refine runf @hl' ?_
 exact ends_ret (List.range 8) (by rfl) (xb_sub ⟨ps, d, rows, m1, m2, pf, c1, c2, lo⟩ _) (by rfl) (by rfl) (by rfl)
theorem itakeB_err1 (b : Bx) (f : Int) (bt : Batch) (h : Okb b bt) (hs : bt.head.server = 1) (hp : b.pf = none ∨ 1 ≠ (1 : Nat)) {m' : Mirror} {c : Int} (ht : Sl.take b.ps b.m1 bt = (m', c)) (hc0 : c ≠ 0) (hc5 : c ≠ 5) (hc17 : c ≠ 17) : AC Tryz.prog 26 [.ptr 3 0, msgB f bt] (XB b) (.it .i64 c) (XB b) := by
 have k1 := bcopy_c bt h.ne (by have := h.len; omega) h.cz
 have k2 := iother_c b h.ps3 1
 rw [decide_eq_true (by decide)] at k2
 have k3 := iconv_c b 1
 rw [show (b.pf.isSome && decide ((1 : Int) = 1)) = false by rcases hp with hp | hp <;> simp [hp] at *] at k3
 have k4 := mtake_c b.ps b.m1 bt h.inl (by have := h.me; rwa [hs] at this) (by have := h.ml; rwa [hs] at this) (by have := h.mh; rwa [hs] at this) h.ok ⟨by have := h.frm; omega, by have := h.frm; omega⟩
 rw [ht] at k4
 obtain ⟨ps, d, rows, m1, m2, pf, c1, c2, lo⟩ := b
 obtain ⟨⟨srv, size, root, time, ⟨se, ss⟩⟩, frm, en⟩ := bt
 obtain ⟨ns, ne, nh⟩ := m'
 simp only at hs k1 k4
 subst hs
 refine AC.enter2 [57, 59, 61, 62] [29, 58] Tryz.func26 rfl (by decide) (by decide) (Nat.le_of_ble_eq_true rfl) (by kernel_rfl) ?_; refine zev ?_
 refine run ?_
 refine cp k1 ?_
 refine run ?_
 refine call_mk ⟨fun R => AC.bx k2 _, rfl⟩ ?_
 refine run ?_
 refine call_mk ⟨fun R => AC.bx k3 _, rfl⟩ ?_
 refine run ?_
 have q0 : (c == 0) = false := beq_eq_false_iff_ne.2 hc0
 have q5 : (c == 5) = false := beq_eq_false_iff_ne.2 hc5
 have q17 : (c == 17) = false := beq_eq_false_iff_ne.2 hc17
 refine cp k4 ?_
 refine runf (an @q0 (an @q5 @q17)) ?_
 exact ends_ret (List.range 8) (by rfl) (xb_sub ⟨ps, d, rows, m1, m2, pf, c1, c2, lo⟩ _) (by rfl) (by rfl) (by rfl)
theorem itakeB_long1 (b : Bx) (f : Int) (bt : Batch) (h : Okb b bt) (hs : bt.head.server = 1) (hp : b.pf = none ∨ 1 ≠ (1 : Nat)) {m' : Mirror} (ht : Sl.take b.ps b.m1 bt = (m', 0)) (hl : b.m1.entries.length < m'.entries.length) {N : Nat} (hd : Sl.CD b.d N) (hrw : b.rows.length ≤ 16000000) (hN : N + 4683 ≤ 16777216) (hz : ∀ e ∈ bt.entries, Iz e.item) (hsm : ∀ e ∈ bt.entries, (entryB e).length ≤ 200) (hrh : rightH bt.head = true) : AC Tryz.prog 26 [.ptr 3 0, msgB f bt] (XB b) (.it .i64 0) (XB { b with d := keepD b.d (rowsOfB bt), rows := b.rows ++ rowsOfB bt, m1 := m', lo := true }) := by
 have k1 := bcopy_c bt h.ne (by have := h.len; omega) h.cz
 have k2 := iother_c b h.ps3 1
 rw [decide_eq_true (by decide)] at k2
 have k3 := iconv_c b 1
 rw [show (b.pf.isSome && decide ((1 : Int) = 1)) = false by rcases hp with hp | hp <;> simp [hp] at *] at k3
 have k4 := mtake_c b.ps b.m1 bt h.inl (by have := h.me; rwa [hs] at this) (by have := h.ml; rwa [hs] at this) (by have := h.mh; rwa [hs] at this) h.ok ⟨by have := h.frm; omega, by have := h.frm; omega⟩
 rw [ht] at k4
 have k5 := ibatchRows_c bt (by have := h.len; omega) hz hsm hrh ⟨by have := h.frm; omega, by have := h.frm; omega⟩
 have hrl := rowsOfB_len bt
 have hbl := h.len
 have hm21 : (bt.entries.length + 1) * 223 ≤ 21 * 223 := Nat.mul_le_mul_right _ (by omega)
 have k6 := ikeep_c b (rowsOfB bt) (B := 210) hd (by rw [hrl]; omega) (by omega) (rowsOfB_le hsm hrh (by have := h.frm; omega) h.len) (by rw [hrl]; omega)
 have hne : (b.lo || !(rowsOfB bt).isEmpty) = true := by
  have : rowsOfB bt ≠ [] := fun e => by rw [e] at hrl; simp at hrl
  cases hh : rowsOfB bt with
  | nil => exact absurd hh this
  | cons => simp
 rw [hne] at k6
 generalize b.rows ++ rowsOfB bt = R at k6 ⊢
 generalize keepD b.d (rowsOfB bt) = D at k6 ⊢
 obtain ⟨ps, d, rows, m1, m2, pf, c1, c2, lo⟩ := b
 obtain ⟨⟨srv, size, root, time, ⟨se, ss⟩⟩, frm, en⟩ := bt
 obtain ⟨ns, ne, nh⟩ := m'
 simp only at hs k1 k4
 subst hs
 refine AC.enter2 [57, 59, 61, 62] [29, 58] Tryz.func26 rfl (by decide) (by decide) (Nat.le_of_ble_eq_true rfl) (by kernel_rfl) ?_; refine zev ?_
 refine run ?_
 refine cp k1 ?_
 refine run ?_
 refine call_mk ⟨fun R => AC.bx k2 _, rfl⟩ ?_
 refine run ?_
 refine call_mk ⟨fun R => AC.bx k3 _, rfl⟩ ?_
 refine run ?_
 simp only at hl
 have hl' : (ne.length : Int) > (m1.entries.length : Int) := by omega
 refine cp k4 ?_
 refine runf @hl' ?_
 refine cp k5 ?_
 refine run ?_
 refine call_mk (AC.bx k6 _) ?_
 refine run ?_
 exact ends_ret (List.range 8) (by rfl) (xb_sub ⟨ps, D, R, ⟨ns, ne, nh⟩, m2, pf, c1, c2, true⟩ _) (by rfl) (by rfl) (by rfl)
theorem itakeB_same2 (b : Bx) (f : Int) (bt : Batch) (h : Okb b bt) (hs : bt.head.server = 2) (hp : b.pf = none ∨ 2 ≠ (1 : Nat)) {m' : Mirror} (ht : Sl.take b.ps b.m2 bt = (m', 0)) (hl : m'.entries.length ≤ b.m2.entries.length) : AC Tryz.prog 26 [.ptr 3 0, msgB f bt] (XB b) (.it .i64 0) (XB b) := by
 have k1 := bcopy_c bt h.ne (by have := h.len; omega) h.cz
 have k2 := iother_c b h.ps3 2
 rw [decide_eq_true (by decide)] at k2
 have k3 := iconv_c b 2
 rw [show (b.pf.isSome && decide ((2 : Int) = 1)) = false by rcases hp with hp | hp <;> simp [hp] at *] at k3
 have k4 := mtake_c b.ps b.m2 bt h.inl (by have := h.me; rwa [hs] at this) (by have := h.ml; rwa [hs] at this) (by have := h.mh; rwa [hs] at this) h.ok ⟨by have := h.frm; omega, by have := h.frm; omega⟩
 rw [ht] at k4
 obtain ⟨ps, d, rows, m1, m2, pf, c1, c2, lo⟩ := b
 obtain ⟨⟨srv, size, root, time, ⟨se, ss⟩⟩, frm, en⟩ := bt
 obtain ⟨ns, ne, nh⟩ := m'
 simp only at hs k1 k4
 subst hs
 refine AC.enter2 [57, 59, 61, 62] [29, 58] Tryz.func26 rfl (by decide) (by decide) (Nat.le_of_ble_eq_true rfl) (by kernel_rfl) ?_; refine zev ?_
 refine run ?_
 refine cp k1 ?_
 refine run ?_
 refine call_mk ⟨fun R => AC.bx k2 _, rfl⟩ ?_
 refine run ?_
 refine call_mk ⟨fun R => AC.bx k3 _, rfl⟩ ?_
 refine run ?_
 simp only at hl
 have hl' : ¬ (ne.length : Int) > (m2.entries.length : Int) := by omega
 refine cp k4 ?_
 refine runf @hl' ?_
 exact ends_ret (List.range 8) (by rfl) (xb_sub ⟨ps, d, rows, m1, m2, pf, c1, c2, lo⟩ _) (by rfl) (by rfl) (by rfl)
theorem itakeB_err2 (b : Bx) (f : Int) (bt : Batch) (h : Okb b bt) (hs : bt.head.server = 2) (hp : b.pf = none ∨ 2 ≠ (1 : Nat)) {m' : Mirror} {c : Int} (ht : Sl.take b.ps b.m2 bt = (m', c)) (hc0 : c ≠ 0) (hc5 : c ≠ 5) (hc17 : c ≠ 17) : AC Tryz.prog 26 [.ptr 3 0, msgB f bt] (XB b) (.it .i64 c) (XB b) := by
 have k1 := bcopy_c bt h.ne (by have := h.len; omega) h.cz
 have k2 := iother_c b h.ps3 2
 rw [decide_eq_true (by decide)] at k2
 have k3 := iconv_c b 2
 rw [show (b.pf.isSome && decide ((2 : Int) = 1)) = false by rcases hp with hp | hp <;> simp [hp] at *] at k3
 have k4 := mtake_c b.ps b.m2 bt h.inl (by have := h.me; rwa [hs] at this) (by have := h.ml; rwa [hs] at this) (by have := h.mh; rwa [hs] at this) h.ok ⟨by have := h.frm; omega, by have := h.frm; omega⟩
 rw [ht] at k4
 obtain ⟨ps, d, rows, m1, m2, pf, c1, c2, lo⟩ := b
 obtain ⟨⟨srv, size, root, time, ⟨se, ss⟩⟩, frm, en⟩ := bt
 obtain ⟨ns, ne, nh⟩ := m'
 simp only at hs k1 k4
 subst hs
 refine AC.enter2 [57, 59, 61, 62] [29, 58] Tryz.func26 rfl (by decide) (by decide) (Nat.le_of_ble_eq_true rfl) (by kernel_rfl) ?_; refine zev ?_
 refine run ?_
 refine cp k1 ?_
 refine run ?_
 refine call_mk ⟨fun R => AC.bx k2 _, rfl⟩ ?_
 refine run ?_
 refine call_mk ⟨fun R => AC.bx k3 _, rfl⟩ ?_
 refine run ?_
 have q0 : (c == 0) = false := beq_eq_false_iff_ne.2 hc0
 have q5 : (c == 5) = false := beq_eq_false_iff_ne.2 hc5
 have q17 : (c == 17) = false := beq_eq_false_iff_ne.2 hc17
 refine cp k4 ?_
 refine runf (an @q0 (an @q5 @q17)) ?_
 exact ends_ret (List.range 8) (by rfl) (xb_sub ⟨ps, d, rows, m1, m2, pf, c1, c2, lo⟩ _) (by rfl) (by rfl) (by rfl)
theorem itakeB_long2 (b : Bx) (f : Int) (bt : Batch) (h : Okb b bt) (hs : bt.head.server = 2) (hp : b.pf = none ∨ 2 ≠ (1 : Nat)) {m' : Mirror} (ht : Sl.take b.ps b.m2 bt = (m', 0)) (hl : b.m2.entries.length < m'.entries.length) {N : Nat} (hd : Sl.CD b.d N) (hrw : b.rows.length ≤ 16000000) (hN : N + 4683 ≤ 16777216) (hz : ∀ e ∈ bt.entries, Iz e.item) (hsm : ∀ e ∈ bt.entries, (entryB e).length ≤ 200) (hrh : rightH bt.head = true) : AC Tryz.prog 26 [.ptr 3 0, msgB f bt] (XB b) (.it .i64 0) (XB { b with d := keepD b.d (rowsOfB bt), rows := b.rows ++ rowsOfB bt, m2 := m', lo := true }) := by
 have k1 := bcopy_c bt h.ne (by have := h.len; omega) h.cz
 have k2 := iother_c b h.ps3 2
 rw [decide_eq_true (by decide)] at k2
 have k3 := iconv_c b 2
 rw [show (b.pf.isSome && decide ((2 : Int) = 1)) = false by rcases hp with hp | hp <;> simp [hp] at *] at k3
 have k4 := mtake_c b.ps b.m2 bt h.inl (by have := h.me; rwa [hs] at this) (by have := h.ml; rwa [hs] at this) (by have := h.mh; rwa [hs] at this) h.ok ⟨by have := h.frm; omega, by have := h.frm; omega⟩
 rw [ht] at k4
 have k5 := ibatchRows_c bt (by have := h.len; omega) hz hsm hrh ⟨by have := h.frm; omega, by have := h.frm; omega⟩
 have hrl := rowsOfB_len bt
 have hbl := h.len
 have hm21 : (bt.entries.length + 1) * 223 ≤ 21 * 223 := Nat.mul_le_mul_right _ (by omega)
 have k6 := ikeep_c b (rowsOfB bt) (B := 210) hd (by rw [hrl]; omega) (by omega) (rowsOfB_le hsm hrh (by have := h.frm; omega) h.len) (by rw [hrl]; omega)
 have hne : (b.lo || !(rowsOfB bt).isEmpty) = true := by
  have : rowsOfB bt ≠ [] := fun e => by rw [e] at hrl; simp at hrl
  cases hh : rowsOfB bt with
  | nil => exact absurd hh this
  | cons => simp
 rw [hne] at k6
 generalize b.rows ++ rowsOfB bt = R at k6 ⊢
 generalize keepD b.d (rowsOfB bt) = D at k6 ⊢
 obtain ⟨ps, d, rows, m1, m2, pf, c1, c2, lo⟩ := b
 obtain ⟨⟨srv, size, root, time, ⟨se, ss⟩⟩, frm, en⟩ := bt
 obtain ⟨ns, ne, nh⟩ := m'
 simp only at hs k1 k4
 subst hs
 refine AC.enter2 [57, 59, 61, 62] [29, 58] Tryz.func26 rfl (by decide) (by decide) (Nat.le_of_ble_eq_true rfl) (by kernel_rfl) ?_; refine zev ?_
 refine run ?_
 refine cp k1 ?_
 refine run ?_
 refine call_mk ⟨fun R => AC.bx k2 _, rfl⟩ ?_
 refine run ?_
 refine call_mk ⟨fun R => AC.bx k3 _, rfl⟩ ?_
 refine run ?_
 simp only at hl
 have hl' : (ne.length : Int) > (m2.entries.length : Int) := by omega
 refine cp k4 ?_
 refine runf @hl' ?_
 refine cp k5 ?_
 refine run ?_
 refine call_mk (AC.bx k6 _) ?_
 refine run ?_
 exact ends_ret (List.range 8) (by rfl) (xb_sub ⟨ps, D, R, m1, ⟨ns, ne, nh⟩, pf, c1, c2, true⟩ _) (by rfl) (by rfl) (by rfl)
end Go.Proofs.YtleljbiejeofgaaGreatDoor.Pe
end
section
namespace Go.Proofs.YtleljbiejeofgaaGreatDoor.Pe
open Go Go.RowKit Co Sg Ac It Sl Wl
set_option maxRecDepth 100000
set_option maxHeartbeats 8000000
theorem hclone_c (l : List Head) (hl : l.length ≤ 1000000) : AC Tryz.prog 43 [headsV l] [] (headsV l) [] := by
 cases l with
 | nil =>
  refine AC.empties fun A c => ?_
  refine AC.enter [] [] Tryz.func43 rfl (by decide) (by decide) (Nat.le_of_ble_eq_true rfl) (by kernel_rfl) ?_; refine zev ?_
  cases A with
  | none =>
   refine run ?_
   exact er0w
  | some A =>
   refine run ?_
   exact er0w
 | cons x l =>
  have hs1 : allSz 6 ((x :: l).map headV) = true := heads_sz _
  have hl' : l.length ≤ 1000000 := by simp only [List.length_cons] at hl; omega
  show AC _ _ [.sl .ro ((x :: l).map headV)] _ (.sl .ro ((x :: l).map headV)) _
  simp only [List.map_cons] at hs1 ⊢
  refine AC.enter [] [] Tryz.func43 rfl (by decide) (by decide) (Nat.le_of_ble_eq_true rfl) (by kernel_rfl) ?_; refine zev ?_
  refine runf @hs1 ?_
  exact er0w
theorem eclone_nil : AC Tryz.prog 89 [.sl .ro []] [] (.sl .ro []) [] := by
 refine AC.empties fun A c => ?_
 refine AC.enter [] [] Tryz.func89 rfl (by decide) (by decide) (Nat.le_of_ble_eq_true rfl) (by kernel_rfl) ?_; refine zev ?_
 cases A with
 | none =>
  refine run ?_
  exact er0w
 | some A =>
  refine run ?_
  exact er0w
theorem ecopy_nil : AC Tryz.prog 44 [.sl .ro []] [] (.sl .ro []) [] := by
 have k0 := eclone_nil
 refine AC.enter2 [89, 90] [] Tryz.func44 rfl (by decide) (by decide) (Nat.le_of_ble_eq_true rfl) (by kernel_rfl) ?_; refine zev ?_
 refine run ?_
 refine cp k0 ?_
 refine run ?_
 refine loop_mk (fun m e S => e 0 = .sl .ro [] ∧ e 7 = .it .i64 0 ∧ e 8 = .it .i64 0 ∧ S = [] ∧ m = 0) 0 ⟨zsl, zsl, zsl, rfl, rfl⟩ ?_
 rintro m e S ⟨s0, s7, s8, rfl, rfl⟩
 refine runf (an @s0 (an @s7 @s8)) ?_
 exact er0w
theorem ecopy_any (L : List It.Entry) (hl : L.length ≤ 100000) (hz : ∀ e ∈ L, Cz e.item) : AC Tryz.prog 44 [entriesV L] [] (entriesV L) [] := by
 cases L with
 | nil => exact ecopy_nil
 | cons x l => exact ecopy_c (x :: l) (by simp) hl hz
theorem imirror1_c (b : Bx) (hp : b.ps.length = 3) (hl : b.m1.entries.length ≤ 100000) (hz : ∀ e ∈ b.m1.entries, Cz e.item) (hh : b.m1.heads.length ≤ 1000000) : AC Tryz.prog 18 [.ptr 3 0, .it .i64 1] (XB b) (mirV b.m1) (XB b) := by
 have k2 := iother_c b hp 1
 rw [decide_eq_true (by decide)] at k2
 have k3 := hclone_c b.m1.heads hh
 have k4 := ecopy_any b.m1.entries hl hz
 obtain ⟨ps, d, rows, m1, m2, pf, c1, c2, lo⟩ := b
 refine AC.enter2 [42, 43, 44] [29] Tryz.func18 rfl (by decide) (by decide) (Nat.le_of_ble_eq_true rfl) (by kernel_rfl) ?_; refine zev ?_
 refine run ?_
 refine call_mk ⟨fun R => AC.bx k2 _, rfl⟩ ?_
 refine run ?_
 refine cp k3 ?_
 refine run ?_
 refine cp k4 ?_
 refine run ?_
 exact ends_ret (List.range 8) (by rfl) (xb_sub ⟨ps, d, rows, m1, m2, pf, c1, c2, lo⟩ _) (by rfl) (by rfl) (by rfl)
theorem imirror2_c (b : Bx) (hp : b.ps.length = 3) (hl : b.m2.entries.length ≤ 100000) (hz : ∀ e ∈ b.m2.entries, Cz e.item) (hh : b.m2.heads.length ≤ 1000000) : AC Tryz.prog 18 [.ptr 3 0, .it .i64 2] (XB b) (mirV b.m2) (XB b) := by
 have k2 := iother_c b hp 2
 rw [decide_eq_true (by decide)] at k2
 have k3 := hclone_c b.m2.heads hh
 have k4 := ecopy_any b.m2.entries hl hz
 obtain ⟨ps, d, rows, m1, m2, pf, c1, c2, lo⟩ := b
 refine AC.enter2 [42, 43, 44] [29] Tryz.func18 rfl (by decide) (by decide) (Nat.le_of_ble_eq_true rfl) (by kernel_rfl) ?_; refine zev ?_
 refine run ?_
 refine call_mk ⟨fun R => AC.bx k2 _, rfl⟩ ?_
 refine run ?_
 refine cp k3 ?_
 refine run ?_
 refine cp k4 ?_
 refine run ?_
 exact ends_ret (List.range 8) (by rfl) (xb_sub ⟨ps, d, rows, m1, m2, pf, c1, c2, lo⟩ _) (by rfl) (by rfl) (by rfl)
def convL : Option Evidence → List Int
 | none => []
 | some _ => [1]
theorem iconvicted_c (b : Bx) : AC Tryz.prog 23 [.ptr 3 0] (XB b) (intsV (convL b.pf)) (XB b) := by
 obtain ⟨ps, d, rows, m1, m2, pf, c1, c2, lo⟩ := b
 cases pf with
 | none =>
  have hS : (XB ⟨ps, d, rows, m1, m2, none, c1, c2, lo⟩)[5]? = some (keyM (.bo true) []) := rfl
  have k1 := ekeys_at (va := .bo true) rfl hS
  have k2 := esorted_at (va := .bo true) rfl (acc := []) (T := XB ⟨ps, d, rows, m1, m2, none, c1, c2, lo⟩ ++ [.cells [.mp 5]]) 5 8 (by decide) (by decide) (by decide) (by simp) rfl rfl
  rw [show ([] : List Int).mergeSort (fun x y => decide (x ≤ y)) = [] from List.mergeSort_nil] at k2
  refine AC.enter2 [] [] Tryz.func23 rfl (by decide) (by decide) (Nat.le_of_ble_eq_true rfl) (by kernel_rfl) ?_; refine zev ?_
  refine run ?_
  refine call_mk k1 ?_
  refine run ?_
  refine call_mk k2 ?_
  refine run ?_
  exact ends_ret (List.range 8) (by rfl) (xb_sub ⟨ps, d, rows, m1, m2, none, c1, c2, lo⟩ _) (by rfl) (by rfl) (by rfl)
 | some ev =>
  have hS : (XB ⟨ps, d, rows, m1, m2, some ev, c1, c2, lo⟩)[5]? = some (keyM (evV ev) [1]) := rfl
  have k1 := ekeys_at (va := evV ev) rfl hS
  have k2 := esorted_at (va := evV ev) rfl (acc := [1]) (T := XB ⟨ps, d, rows, m1, m2, some ev, c1, c2, lo⟩ ++ [.cells [.mp 5]]) 5 8 (by decide) (by decide) (by decide) (by simp) rfl rfl
  rw [show ([1] : List Int).mergeSort (fun x y => decide (x ≤ y)) = [1] from List.mergeSort_singleton _] at k2
  refine AC.enter2 [] [] Tryz.func23 rfl (by decide) (by decide) (Nat.le_of_ble_eq_true rfl) (by kernel_rfl) ?_; refine zev ?_
  refine run ?_
  refine call_mk k1 ?_
  refine run ?_
  refine call_mk k2 ?_
  refine run ?_
  exact ends_ret (List.range 8) (by rfl) (xb_sub ⟨ps, d, rows, m1, m2, some ev, c1, c2, lo⟩ _) (by rfl) (by rfl) (by rfl)
end Go.Proofs.YtleljbiejeofgaaGreatDoor.Pe
end
section
namespace Go.Proofs.YtleljbiejeofgaaGreatDoor.Pe
open Go Go.RowKit Co Sg Ac It Sl Wl
set_option maxRecDepth 100000
set_option maxHeartbeats 8000000
abbrev itemsV (l : List It.Item) : AV := .sl .ro (l.map itemV)
theorem items_sz (l : List It.Item) : allSz 49 (l.map itemV) = true := allSz_map 49 itemV (fun _ => rfl) _
def itsOf (v q : Bool) (l : List It.Entry) : List It.Item := if v = q then l.map (·.item) else []
def Bx.items (b : Bx) (q : Bool) : List It.Item := itsOf b.pf.isSome q b.m1.entries ++ itsOf false q b.m2.entries
theorem iitems_c (b : Bx) (q : Bool) (h1 : b.m1.entries.length ≤ 100000) (h2 : b.m2.entries.length ≤ 100000) (hz1 : ∀ e ∈ b.m1.entries, Cz e.item) (hz2 : ∀ e ∈ b.m2.entries, Cz e.item) :
  AC Tryz.prog 45 [.ptr 3 0, .bo q] (XB b) (itemsV (b.items q)) (XB b) := by
 have k0 := iconv_c b 0
 rw [show (b.pf.isSome && decide ((0 : Int) = 1)) = false by simp] at k0
 have k1 := iconv_c b 1
 rw [show (b.pf.isSome && decide ((1 : Int) = 1)) = b.pf.isSome by simp] at k1
 have k2 := iconv_c b 2
 rw [show (b.pf.isSome && decide ((2 : Int) = 1)) = false by simp] at k2
 have hI : b.items q = itsOf b.pf.isSome q b.m1.entries ++ itsOf false q b.m2.entries := rfl
 generalize b.items q = R at *
 obtain ⟨ps, d, rows, m1, m2, pf, c1, c2, lo⟩ := b
 obtain ⟨s1, n1, g1⟩ := m1
 obtain ⟨s2, n2, g2⟩ := m2
 simp only at h1 h2 hz1 hz2 k0 k1 k2 hI
 generalize hv : pf.isSome = v at *
 refine AC.enter2 [90] [58] Tryz.func45 rfl (by decide) (by decide) (Nat.le_of_ble_eq_true rfl) (by kernel_rfl) ?_; refine zev ?_
 refine run ?_
 have hl1 : (itsOf v q n1).length ≤ 100000 := by unfold itsOf; split <;> simp <;> omega
 have hl2 : (itsOf false q n2).length ≤ 100000 := by unfold itsOf; split <;> simp <;> omega
 have hb1 : ∀ x ∈ itsOf v q n1, True := fun _ _ => trivial
 refine loop_mk' (fun m e S => e 0 = .ptr 3 0 ∧ e 1 = .bo q ∧ e 13 = .wr 4 3 none ∧ e 14 = .it .i64 3 ∧ ∃ (k : Nat) (acc : List It.Item) (T : Store), e 15 = .it .i64 (k : Int) ∧ e 5 = .sl (.own 8) (acc.map itemV) ∧ S = XB ⟨ps, d, rows, ⟨s1, n1, g1⟩, ⟨s2, n2, g2⟩, pf, c1, c2, lo⟩ ++ .buf acc.length 89 49 :: T ∧ (k = 0 ∧ acc = [] ∨ k = 1 ∧ acc = [] ∨ k = 2 ∧ acc = itsOf v q n1 ∨ k = 3 ∧ acc = R) ∧ m = 3 - k) 3 _ _ (Weak.reserve 8 5 (es := []) (by rfl) 89 49)
  ⟨zsl, zsl, zsl, zsl, 0, [], [], zsl, zsl, rfl, .inl ⟨rfl, rfl⟩, rfl⟩ ?_
 rintro m e S ⟨s0, s1', s13, s14, k, acc, T, s15, s5, rfl, hk, rfl⟩
 have hT1 : ∀ y : SObj, (T ++ [y])[T.length]? = some y := fun y => by simp
 have hT2 : ∀ y z : SObj, (T ++ [y]).set T.length z = T ++ [z] := fun y z => by simp
 rcases hk with ⟨rfl, rfl⟩ | ⟨rfl, rfl⟩ | ⟨rfl, rfl⟩ | ⟨rfl, rfl⟩
 ·refine runf (an @s0 (an @s1' (an @s13 (an @s14 (an @s15 (an @s5 (an @hT1 @hT2))))))) ?_
  refine call_mk ⟨fun R => AC.bx k0 _, rfl⟩ ?_
  by_cases hq : false = q
  ·have hqn : (false == q) = true := beq_iff_eq.2 hq
   have hits : True := trivial
   refine runf (an @s0 (an @s1' (an @s13 (an @s14 (an @s15 (an @s5 (an @hT1 (an @hT2 @hqn)))))))) ?_
   have hsz := entries_sz ([] : List It.Entry)
   refine loop_mk (fun m e S => e 0 = .ptr 3 0 ∧ e 1 = .bo q ∧ e 13 = .wr 4 3 none ∧ e 14 = .it .i64 3 ∧ e 15 = .it .i64 ((0 : Nat) : Int) ∧ e 26 = entriesV ([] : List It.Entry) ∧ e 27 = .it .i64 (([] : List It.Entry).length : Int) ∧ ∃ (j : Nat) (acc : List It.Item) (T : Store), e 28 = .it .i64 (j : Int) ∧ e 5 = .sl (.own 8) (acc.map itemV) ∧ S = XB ⟨ps, d, rows, ⟨s1, n1, g1⟩, ⟨s2, n2, g2⟩, pf, c1, c2, lo⟩ ++ .buf acc.length 89 49 :: T ∧ acc = [] ++ (([] : List It.Entry).take j).map (·.item) ∧ j ≤ ([] : List It.Entry).length ∧ m = ([] : List It.Entry).length - j) ([] : List It.Entry).length
    ⟨zsl, zsl, zsl, zsl, zsl, zsl, zsl, 0, [], _, zsl, zsl, rfl, by simp, by omega, rfl⟩ ?_
   rintro m e S ⟨s0, s1', s13, s14, s15, s26, s27, j, acc, T, s28, s5, rfl, hacc, hj, rfl⟩
   have hT1 : ∀ y : SObj, (T ++ [y])[T.length]? = some y := fun y => by simp
   have hT2 : ∀ y z : SObj, (T ++ [y]).set T.length z = T ++ [z] := fun y z => by simp
   by_cases hlt : j < ([] : List It.Entry).length
   ·exact absurd hlt (by simp)
   ·obtain rfl : j = ([] : List It.Entry).length := by omega
    rw [List.take_length] at hacc
    refine runf (an @s0 (an @s1' (an @s13 (an @s14 (an @s15 (an @s26 (an @s27 (an @s28 @s5)))))))) ?_
    exact round_mk 2 (by omega) ⟨zsl, zsl, zsl, zsl, 1, acc, T, zsl, zsl, rfl, .inr (.inl ⟨rfl, by rw [hacc]; rfl⟩), rfl⟩
  ·have hqn : (false == q) = false := beq_eq_false_iff_ne.2 hq
   refine runf (an @s0 (an @s1' (an @s13 (an @s14 (an @s15 (an @s5 (an @hT1 (an @hT2 @hqn)))))))) ?_
   exact round_mk 2 (by omega) ⟨zsl, zsl, zsl, zsl, 1, [], _, zsl, zsl, rfl, .inr (.inl ⟨rfl, rfl⟩), rfl⟩
 ·refine runf (an @s0 (an @s1' (an @s13 (an @s14 (an @s15 (an @s5 (an @hT1 @hT2))))))) ?_
  refine call_mk ⟨fun R => AC.bx k1 _, rfl⟩ ?_
  by_cases hq : v = q
  ·have hqn : (v == q) = true := beq_iff_eq.2 hq
   have hits : True := trivial
   refine runf (an @s0 (an @s1' (an @s13 (an @s14 (an @s15 (an @s5 (an @hT1 (an @hT2 @hqn)))))))) ?_
   have hsz := entries_sz n1
   refine loop_mk (fun m e S => e 0 = .ptr 3 0 ∧ e 1 = .bo q ∧ e 13 = .wr 4 3 none ∧ e 14 = .it .i64 3 ∧ e 15 = .it .i64 ((1 : Nat) : Int) ∧ e 26 = entriesV n1 ∧ e 27 = .it .i64 (n1.length : Int) ∧ ∃ (j : Nat) (acc : List It.Item) (T : Store), e 28 = .it .i64 (j : Int) ∧ e 5 = .sl (.own 8) (acc.map itemV) ∧ S = XB ⟨ps, d, rows, ⟨s1, n1, g1⟩, ⟨s2, n2, g2⟩, pf, c1, c2, lo⟩ ++ .buf acc.length 89 49 :: T ∧ acc = ([] : List It.Item) ++ (n1.take j).map (·.item) ∧ j ≤ n1.length ∧ m = n1.length - j) n1.length
    ⟨zsl, zsl, zsl, zsl, zsl, zsl, zsl, 0, ([] : List It.Item), _, zsl, zsl, rfl, by simp, by omega, rfl⟩ ?_
   rintro m e S ⟨s0, s1', s13, s14, s15, s26, s27, j, acc, T, s28, s5, rfl, hacc, hj, rfl⟩
   have hT1 : ∀ y : SObj, (T ++ [y])[T.length]? = some y := fun y => by simp
   have hT2 : ∀ y z : SObj, (T ++ [y]).set T.length z = T ++ [z] := fun y z => by simp
   by_cases hlt : j < n1.length
   ·have hg : n1[j]? = some n1[j] := List.getElem?_eq_getElem hlt
    have kc := icopy_c n1[j].item (hz1 _ (List.getElem_mem hlt))
    have hst : acc ++ [n1[j].item] = ([] : List It.Item) ++ (n1.take (j + 1)).map (·.item) := by rw [List.take_succ_eq_append_getElem hlt, List.map_append, ← List.append_assoc, ← hacc]; rfl
    have hal : acc.length ≤ 200000 := by
     have hq9 := congrArg List.length hacc
     simp only [List.length_append, List.length_map, List.length_take, List.length_nil] at hq9
     omega
    have hft : fits (acc.length + 1) 568 = true := by apply fits_ok <;> omega
    generalize n1[j] = y at *
    have hlt' : (j : Int) < (n1.length : Int) := by omega
    have hsza := items_sz acc
    refine runf (an @s0 (an @s1' (an @s13 (an @s14 (an @s15 (an @s26 (an @s27 (an @s28 (an @s5 (an @hg (an @hsz (an @hT1 (an @hT2 @hlt'))))))))))))) ?_
    refine cp kc ?_
    refine runf (an @s0 (an @s1' (an @s13 (an @s14 (an @s15 (an @s26 (an @s27 (an @s28 (an @s5 (an @hT1 (an @hT2 (an @hft @hsza)))))))))))) ?_
    exact round_mk (n1.length - (j + 1)) (by omega) ⟨zsl, zsl, zsl, zsl, zsl, zsl, zsl, j + 1, acc ++ [y.item], _, zsl, by rw [List.map_append]; exact zsl, by rw [List.length_append]; rfl, hst, by omega, rfl⟩
   ·obtain rfl : j = n1.length := by omega
    rw [List.take_length] at hacc
    refine runf (an @s0 (an @s1' (an @s13 (an @s14 (an @s15 (an @s26 (an @s27 (an @s28 @s5)))))))) ?_
    exact round_mk 1 (by omega) ⟨zsl, zsl, zsl, zsl, 2, acc, T, zsl, zsl, rfl, .inr (.inr (.inl ⟨rfl, by rw [hacc]; unfold itsOf; rw [if_pos hq]; rfl⟩)), rfl⟩
  ·have hqn : (v == q) = false := beq_eq_false_iff_ne.2 hq
   refine runf (an @s0 (an @s1' (an @s13 (an @s14 (an @s15 (an @s5 (an @hT1 (an @hT2 @hqn)))))))) ?_
   exact round_mk 1 (by omega) ⟨zsl, zsl, zsl, zsl, 2, ([] : List It.Item), _, zsl, zsl, rfl, .inr (.inr (.inl ⟨rfl, by unfold itsOf; rw [if_neg hq]⟩)), rfl⟩
 ·refine runf (an @s0 (an @s1' (an @s13 (an @s14 (an @s15 (an @s5 (an @hT1 @hT2))))))) ?_
  refine call_mk ⟨fun R => AC.bx k2 _, rfl⟩ ?_
  by_cases hq : false = q
  ·have hqn : (false == q) = true := beq_iff_eq.2 hq
   have hits : True := trivial
   refine runf (an @s0 (an @s1' (an @s13 (an @s14 (an @s15 (an @s5 (an @hT1 (an @hT2 @hqn)))))))) ?_
   have hsz := entries_sz n2
   refine loop_mk (fun m e S => e 0 = .ptr 3 0 ∧ e 1 = .bo q ∧ e 13 = .wr 4 3 none ∧ e 14 = .it .i64 3 ∧ e 15 = .it .i64 ((2 : Nat) : Int) ∧ e 26 = entriesV n2 ∧ e 27 = .it .i64 (n2.length : Int) ∧ ∃ (j : Nat) (acc : List It.Item) (T : Store), e 28 = .it .i64 (j : Int) ∧ e 5 = .sl (.own 8) (acc.map itemV) ∧ S = XB ⟨ps, d, rows, ⟨s1, n1, g1⟩, ⟨s2, n2, g2⟩, pf, c1, c2, lo⟩ ++ .buf acc.length 89 49 :: T ∧ acc = itsOf v q n1 ++ (n2.take j).map (·.item) ∧ j ≤ n2.length ∧ m = n2.length - j) n2.length
    ⟨zsl, zsl, zsl, zsl, zsl, zsl, zsl, 0, itsOf v q n1, _, zsl, zsl, rfl, by simp, by omega, rfl⟩ ?_
   rintro m e S ⟨s0, s1', s13, s14, s15, s26, s27, j, acc, T, s28, s5, rfl, hacc, hj, rfl⟩
   have hT1 : ∀ y : SObj, (T ++ [y])[T.length]? = some y := fun y => by simp
   have hT2 : ∀ y z : SObj, (T ++ [y]).set T.length z = T ++ [z] := fun y z => by simp
   by_cases hlt : j < n2.length
   ·have hg : n2[j]? = some n2[j] := List.getElem?_eq_getElem hlt
    have kc := icopy_c n2[j].item (hz2 _ (List.getElem_mem hlt))
    have hst : acc ++ [n2[j].item] = itsOf v q n1 ++ (n2.take (j + 1)).map (·.item) := by rw [List.take_succ_eq_append_getElem hlt, List.map_append, ← List.append_assoc, ← hacc]; rfl
    have hal : acc.length ≤ 200000 := by
     have hq9 := congrArg List.length hacc
     simp only [List.length_append, List.length_map, List.length_take, List.length_nil] at hq9
     omega
    have hft : fits (acc.length + 1) 568 = true := by apply fits_ok <;> omega
    generalize n2[j] = y at *
    have hlt' : (j : Int) < (n2.length : Int) := by omega
    have hsza := items_sz acc
    refine runf (an @s0 (an @s1' (an @s13 (an @s14 (an @s15 (an @s26 (an @s27 (an @s28 (an @s5 (an @hg (an @hsz (an @hT1 (an @hT2 @hlt'))))))))))))) ?_
    refine cp kc ?_
    refine runf (an @s0 (an @s1' (an @s13 (an @s14 (an @s15 (an @s26 (an @s27 (an @s28 (an @s5 (an @hT1 (an @hT2 (an @hft @hsza)))))))))))) ?_
    exact round_mk (n2.length - (j + 1)) (by omega) ⟨zsl, zsl, zsl, zsl, zsl, zsl, zsl, j + 1, acc ++ [y.item], _, zsl, by rw [List.map_append]; exact zsl, by rw [List.length_append]; rfl, hst, by omega, rfl⟩
   ·obtain rfl : j = n2.length := by omega
    rw [List.take_length] at hacc
    refine runf (an @s0 (an @s1' (an @s13 (an @s14 (an @s15 (an @s26 (an @s27 (an @s28 @s5)))))))) ?_
    exact round_mk 0 (by omega) ⟨zsl, zsl, zsl, zsl, 3, acc, T, zsl, zsl, rfl, .inr (.inr (.inr ⟨rfl, by rw [hacc, hI]; congr 1; unfold itsOf; rw [if_pos hq]⟩)), rfl⟩
  ·have hqn : (false == q) = false := beq_eq_false_iff_ne.2 hq
   refine runf (an @s0 (an @s1' (an @s13 (an @s14 (an @s15 (an @s5 (an @hT1 (an @hT2 @hqn)))))))) ?_
   exact round_mk 0 (by omega) ⟨zsl, zsl, zsl, zsl, 3, itsOf v q n1, _, zsl, zsl, rfl, .inr (.inr (.inr ⟨rfl, by rw [hI, show itsOf false q n2 = [] from by unfold itsOf; rw [if_neg hq]]; exact (List.append_nil _).symm⟩)), rfl⟩
 ·refine runf (an @s0 (an @s1' (an @s13 (an @s14 (an @s15 @s5))))) ?_
  exact ends_retv (List.range 8) (by rfl) (xb_sub ⟨ps, d, rows, ⟨s1, n1, g1⟩, ⟨s2, n2, g2⟩, pf, c1, c2, lo⟩ _) (by rfl) (by rfl) (by rfl)
theorem iItems_c (b : Bx) (h1 : b.m1.entries.length ≤ 100000) (h2 : b.m2.entries.length ≤ 100000) (hz1 : ∀ e ∈ b.m1.entries, Cz e.item) (hz2 : ∀ e ∈ b.m2.entries, Cz e.item) :
  AC Tryz.prog 19 [.ptr 3 0] (XB b) (itemsV (b.items false)) (XB b) := by
 have k := iitems_c b false h1 h2 hz1 hz2
 generalize b.items false = R at *
 refine AC.enter2 [] [] Tryz.func19 rfl (by decide) (by decide) (Nat.le_of_ble_eq_true rfl) (by kernel_rfl) ?_; refine zev ?_
 refine run ?_
 refine call_mk k ?_
 refine run ?_
 exact ends_ret (List.range 8) (by rfl) (xb_same b) (by rfl) (by rfl) (by rfl)
theorem iOrphans_c (b : Bx) (h1 : b.m1.entries.length ≤ 100000) (h2 : b.m2.entries.length ≤ 100000) (hz1 : ∀ e ∈ b.m1.entries, Cz e.item) (hz2 : ∀ e ∈ b.m2.entries, Cz e.item) :
  AC Tryz.prog 20 [.ptr 3 0] (XB b) (itemsV (b.items true)) (XB b) := by
 have k := iitems_c b true h1 h2 hz1 hz2
 generalize b.items true = R at *
 refine AC.enter2 [] [] Tryz.func20 rfl (by decide) (by decide) (Nat.le_of_ble_eq_true rfl) (by kernel_rfl) ?_; refine zev ?_
 refine run ?_
 refine call_mk k ?_
 refine run ?_
 exact ends_ret (List.range 8) (by rfl) (xb_same b) (by rfl) (by rfl) (by rfl)
end Go.Proofs.YtleljbiejeofgaaGreatDoor.Pe
end
section
namespace Go.Proofs.YtleljbiejeofgaaGreatDoor.Pe
open Go Go.RowKit Co Sg Ac It Sl
set_option maxRecDepth 100000
set_option maxHeartbeats 8000000
theorem econcat_c (A B : List It.Entry) (h1 : 1 ≤ A.length + B.length) (hn : A.length + B.length ≤ 100000) : AC Tryz.prog 62 [.sl .ro [entriesV A, entriesV B]] [] (entriesV (A ++ B)) [] := by
 have kg := egrow_c (A.length + B.length) h1 hn
 have hszA := entries_sz A
 have hszB := entries_sz B
 have hszAB := entries_sz (A ++ B)
 have hokAB : (flat ((A ++ B).map entryV)).all (AV.o1 0) = true := flat_ok _ (fun _ => rfl) _
 have hFA : (flat (A.map entryV)).length = A.length * 50 := flat_len entryV 50 (fun _ => rfl) A
 have hFab : flat (A.map entryV) ++ flat (B.map entryV) = flat ((A ++ B).map entryV) := by rw [List.map_append, flat_append]
 have w1 : IntKind.i64.wrap (0 + (A.length : Int)) = (A.length : Int) := by rw [wrap64 (by omega) (by omega)]; omega
 have w2 : IntKind.i64.wrap ((A.length : Int) + (B.length : Int)) = ((A.length + B.length : Nat) : Int) := by rw [wrap64 (by omega) (by omega)]; omega
 have n1 : ¬ (A.length : Int) < 0 := by omega
 have n2 : ¬ ((A.length + B.length : Nat) : Int) < 0 := by omega
 have f1 : fits A.length 576 = true := by apply fits_ok <;> omega
 have f2 : fits (A.length + B.length) 576 = true := by apply fits_ok <;> omega
 refine AC.hw 36 Tryz.func62 rfl (by decide) (Nat.le_of_ble_eq_true rfl) rfl ?_
 refine HW.seq (HW.aw [] [] (by decide) (by kernel_rfl) ?_)
 refine zev ?_
 refine run ?_
 refine HW.seq (HW.aw [] [] (by decide) (by kernel_rfl) ?_)
 refine zev ?_
 refine run ?_
 refine HW.seq (HW.aw [] [] (by decide) (by kernel_rfl) ?_)
 refine zev ?_
 refine run ?_
 refine loop_mk (fun m e S => e 0 = .sl .ro [entriesV A, entriesV B] ∧ e 9 = .sl .ro [entriesV A, entriesV B] ∧ e 10 = .it .i64 2 ∧ S = [] ∧ ∃ (k : Nat) (t : Int), e 11 = .it .i64 (k : Int) ∧ e 3 = .it .i64 t ∧ (k = 0 ∧ t = 0 ∨ k = 1 ∧ t = A.length ∨ k = 2 ∧ t = ((A.length + B.length : Nat) : Int)) ∧ m = 2 - k) 2 ⟨zsl, zsl, zsl, rfl, 0, 0, zsl, zsl, .inl ⟨rfl, rfl⟩, rfl⟩ ?_
 rintro m e S ⟨s0, s9, s10, rfl, k, t, s11, s3, hk, rfl⟩
 rcases hk with ⟨rfl, rfl⟩ | ⟨rfl, rfl⟩ | ⟨rfl, rfl⟩
 ·refine runf (an @s0 (an @s9 (an @s10 (an @s11 (an @s3 (an @w1 @n1)))))) ?_
  exact round_mk 1 (by omega) ⟨zsl, zsl, zsl, rfl, 1, A.length, zsl, zsl, .inr (.inl ⟨rfl, rfl⟩), rfl⟩
 ·refine runf (an @s0 (an @s9 (an @s10 (an @s11 (an @s3 (an @w2 @n2)))))) ?_
  exact round_mk 0 (by omega) ⟨zsl, zsl, zsl, rfl, 2, _, zsl, zsl, .inr (.inr ⟨rfl, rfl⟩), rfl⟩
 ·refine runf (an @s0 (an @s9 (an @s10 (an @s11 @s3)))) ?_
  refine HW.seq (HW.reg [] [] (by kernel_rfl) ?_)
  refine wpL_app [_, _] [_] _ _ (wpL_of_ARg (pf := []) (rf := []) [_] _ _ ?_)
  simp only [List.map_cons, List.map_nil, eraseO, eraseC, eraseG, eraseO, List.map_cons, List.map_nil, List.map_toArray, List.getElem?_toArray, List.getElem?_cons_zero, List.getElem?_cons_succ, Option.bind_some, Option.bind_none, List.append_eq, List.cons_append, List.nil_append]
  refine runf @s3 ?_
  refine ⟨_, _, does_call (fa := []) (ca := []) rfl rfl rfl kg, ?_⟩
  refine wpL_of_ARg (pf := []) (rf := []) [_] _ _ ?_
  simp only [List.map_cons, List.map_nil, eraseO, eraseC, eraseG, eraseO, List.map_cons, List.map_nil, List.map_toArray, List.getElem?_toArray, List.getElem?_cons_zero, List.getElem?_cons_succ, Option.bind_some, Option.bind_none, List.append_eq, List.cons_append, List.nil_append]
  refine run ?_
  refine HW.seq (HW.aw [] [] (by decide) (by kernel_rfl) ?_)
  refine zev ?_
  refine runf @s0 ?_
  refine loop_mk (fun m e S => e 25 = .sl .ro [entriesV A, entriesV B] ∧ e 26 = .it .i64 2 ∧ ∃ (k n : Nat) (F : List AV), e 27 = .it .i64 (k : Int) ∧ e 6 = .wr 0 n none ∧ S = [.row F 92 50] ∧ (k = 0 ∧ n = 0 ∧ F = [] ∨ k = 1 ∧ n = A.length ∧ F = flat (A.map entryV) ∨ k = 2 ∧ n = A.length + B.length ∧ F = flat ((A ++ B).map entryV)) ∧ m = 2 - k) 2 ⟨zsl, zsl, 0, 0, [], zsl, zsl, rfl, .inl ⟨rfl, rfl, rfl⟩, rfl⟩ ?_
  rintro m e S ⟨s25, s26, k, n, F, s27, s6, rfl, hk, rfl⟩
  rcases hk with ⟨rfl, rfl, rfl⟩ | ⟨rfl, rfl, rfl⟩ | ⟨rfl, rfl, rfl⟩
  ·refine runf (an @s25 (an @s26 (an @s27 (an @s6 (an @hszA @f1))))) ?_
   exact round_mk 1 (by omega) ⟨zsl, zsl, 1, A.length, _, zsl, zsl, rfl, .inr (.inl ⟨rfl, rfl, rfl⟩), rfl⟩
  ·refine runf (an @s25 (an @s26 (an @s27 (an @s6 (an @hszB (an @f2 (an @hFA @hFab))))))) ?_
   exact round_mk 0 (by omega) ⟨zsl, zsl, 2, A.length + B.length, _, zsl, zsl, rfl, .inr (.inr ⟨rfl, rfl, rfl⟩), rfl⟩
  ·refine runf (an @s25 (an @s26 (an @s27 @s6))) ?_
   refine HW.aw [] [] (by decide) (by kernel_rfl) ?_
   refine zev ?_
   refine runf @s6 ?_
   exact ends_frz 2 0 rfl (by rw [List.length_map, List.length_append]) hszAB hokAB (by rfl) (by rfl) (by rfl)
end Go.Proofs.YtleljbiejeofgaaGreatDoor.Pe
end
