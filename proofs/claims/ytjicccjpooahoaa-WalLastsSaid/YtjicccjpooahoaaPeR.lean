/- One run of the rules that step through a text on plain values, as a theorem. -/
import Derived.Test.YtjicccjpooahoaaPeW4
import Derived.Test.YtjicccjpooahoaaTf
set_option linter.unusedSectionVars false
set_option linter.unusedVariables false
set_option linter.unusedSimpArgs false
namespace Go.Proofs.Ytjicccjpooahoaa.Pe
open Go
variable [Tab]
set_option maxRecDepth 100000
theorem an {a b : Prop} (x : a) (y : b) : a ∧ b := ⟨x, y⟩
theorem run {A B : Prop} (h : B) (e : A = B := by
  conv =>
   lhs
   (try simp only [AWs_eq, ARgs_eq, AOps_eq, iteP_true, iteP_false])
   (try simp -implicitDefEqProofs (maxSteps := 4000000) (disch := (first | omega | (simp only [List.length_append, List.length_cons, List.length_map, List.length_nil, List.length_take, List.length_drop]; omega))) only [↓zpre, zpost, cst1, ↓reduceIte, Nat.reduceEqDiff, Nat.reduceAdd, Nat.reduceLT, Nat.reduceLeDiff, Nat.reduceMul, Nat.reduceSub, Int.reduceToNat, Int.reduceAdd, Int.reduceSub, Int.reduceMul, Int.reduceNeg, Int.reduceLE, Int.reduceLT, Int.reduceEq, Int.reduceBEq, Int.reduceBNe, Nat.reduceBEq, Nat.reduceBNe, aBin, aEq, aEqF, aNilEq, aInt, aStr, aUn, aConv, aNil, aFldAddr, aFld, aIdxAddr, aIdx, aBui, aLoad, aStore, aLits, aLit, aMake, aMakeW, aMapSet, aLook, kfind, keq, kok, lookOut, aMk, aRange, aNext, aBytes, aApp, srcOf, aSlice, aBound, modeCut, apart, aFill, aval, aGd, zobj, zfr, ACall, AV.wk, AV.wk2, AV.wk1, AV.cells, AV.solid, AV.ro, AV.ro1, ← List.map_take, ← List.map_drop, reduceCtorEq, Option.isNone_some, Option.isSome_none, tf0, tf1, tf2, tf3, tf4, tf5, tf6, tf7, tf8, tf9, tf10, tf11, tf12])
   (try simp only [iteP_true, iteP_false])) : A := e ▸ h
theorem runf {F A B : Prop} (f : F) (h : B) (e : F → A = B := by
  intro f
  conv =>
   lhs
   (try simp only [AWs_eq, ARgs_eq, AOps_eq, iteP_true, iteP_false])
   (try simp -implicitDefEqProofs (maxSteps := 4000000) (disch := (first | omega | (simp only [List.length_append, List.length_cons, List.length_map, List.length_nil, List.length_take, List.length_drop]; omega))) only [↓zpre, zpost, cst1, ↓reduceIte, Nat.reduceEqDiff, Nat.reduceAdd, Nat.reduceLT, Nat.reduceLeDiff, Nat.reduceMul, Nat.reduceSub, Int.reduceToNat, Int.reduceAdd, Int.reduceSub, Int.reduceMul, Int.reduceNeg, Int.reduceLE, Int.reduceLT, Int.reduceEq, Int.reduceBEq, Int.reduceBNe, Nat.reduceBEq, Nat.reduceBNe, aBin, aEq, aEqF, aNilEq, aInt, aStr, aUn, aConv, aNil, aFldAddr, aFld, aIdxAddr, aIdx, aBui, aLoad, aStore, aLits, aLit, aMake, aMakeW, aMapSet, aLook, kfind, keq, kok, lookOut, aMk, aRange, aNext, aBytes, aApp, srcOf, aSlice, aBound, modeCut, apart, aFill, aval, aGd, zobj, zfr, ACall, AV.wk, AV.wk2, AV.wk1, AV.cells, AV.solid, AV.ro, AV.ro1, ← List.map_take, ← List.map_drop, reduceCtorEq, Option.isNone_some, Option.isSome_none, tf0, tf1, tf2, tf3, tf4, tf5, tf6, tf7, tf8, tf9, tf10, tf11, tf12, f])
   (try simp only [iteP_true, iteP_false])) : A := e f ▸ h
section
variable {P : Program} {pf rf : List FuncId} {e : Env} {f : FuncId} {d : Option Nat} {rest : List AO} {K : Env → Store → Prop}
theorem cp {args args' : List AV} {S : Store} {v : AV} (h : AC P f args' [] v []) (h' : ARg P pf rf rest (put e d v) S K)
  (ha : args.map AV.wk = args' := by rfl) (hk : args'.all (AV.ok 0) = true := by rfl) (hv : v.ok 0 = true := by rfl) : callP (PureC P f args S) (ARgk P pf rf d rest e K) := call_pure h ha hk hv h'
theorem o0_mono {v : AV} {n m : Nat} (h : v.o0 n = true) (hm : n ≤ m) : v.o0 m = true := by
 cases v with
 | sl mo es => cases mo <;> simp_all [AV.o0]; omega
 | ptr l o => simp only [AV.o0, decide_eq_true_eq] at *; omega
 | mp l => simp only [AV.o0, decide_eq_true_eq] at *; omega
 | ws l o k c => simp only [AV.o0, decide_eq_true_eq] at *; omega
 | wr l k o => simp only [AV.o0, decide_eq_true_eq] at *; omega
 | _ => simp_all [AV.o0]
theorem o1_mono {v : AV} {n m : Nat} (h : v.o1 n = true) (hm : n ≤ m) : v.o1 m = true := by
 cases v with
 | fn g a c =>
  simp only [AV.o1, Bool.and_eq_true, List.all_eq_true] at *
  exact ⟨fun x hx => o0_mono (h.1 x hx) hm, fun x hx => o0_mono (h.2 x hx) hm⟩
 | bo b => exact o0_mono (v := .bo b) h hm
 | it k i => exact o0_mono (v := .it k i) h hm
 | st l => exact o0_mono (v := .st l) h hm
 | ot v => exact o0_mono (v := .ot v) h hm
 | sl m' es => exact o0_mono (v := .sl m' es) h hm
 | agg cs => exact o0_mono (v := .agg cs) h hm
 | tup vs => exact o0_mono (v := .tup vs) h hm
 | ptr l o => exact o0_mono (v := .ptr l o) h hm
 | pst e o => exact o0_mono (v := .pst e o) h hm
 | mp l => exact o0_mono (v := .mp l) h hm
 | fm es => exact o0_mono (v := .fm es) h hm
 | ws l o k c => exact o0_mono (v := .ws l o k c) h hm
 | wr l k o => exact o0_mono (v := .wr l k o) h hm
 | junk => exact o0_mono (v := .junk) h hm
theorem o2_mono {v : AV} {n m : Nat} (h : v.o2 n = true) (hm : n ≤ m) : v.o2 m = true := by
 cases v with
 | agg cs =>
  simp only [AV.o2, List.all_eq_true] at *
  exact fun x hx => o1_mono (h x hx) hm
 | bo b => exact o1_mono (v := .bo b) h hm
 | it k i => exact o1_mono (v := .it k i) h hm
 | st l => exact o1_mono (v := .st l) h hm
 | ot v => exact o1_mono (v := .ot v) h hm
 | sl m' es => exact o1_mono (v := .sl m' es) h hm
 | tup vs => exact o1_mono (v := .tup vs) h hm
 | ptr l o => exact o1_mono (v := .ptr l o) h hm
 | pst e o => exact o1_mono (v := .pst e o) h hm
 | fn f a c => exact o1_mono (v := .fn f a c) h hm
 | mp l => exact o1_mono (v := .mp l) h hm
 | fm es => exact o1_mono (v := .fm es) h hm
 | ws l o k c => exact o1_mono (v := .ws l o k c) h hm
 | wr l k o => exact o1_mono (v := .wr l k o) h hm
 | junk => exact o1_mono (v := .junk) h hm
theorem ok_mono {v : AV} {n m : Nat} (h : v.ok n = true) (hm : n ≤ m) : v.ok m = true := by
 cases v with
 | tup cs =>
  simp only [AV.ok, List.all_eq_true] at *
  exact fun x hx => o2_mono (h x hx) hm
 | bo b => exact o2_mono (v := .bo b) h hm
 | it k i => exact o2_mono (v := .it k i) h hm
 | st l => exact o2_mono (v := .st l) h hm
 | ot v => exact o2_mono (v := .ot v) h hm
 | sl m' es => exact o2_mono (v := .sl m' es) h hm
 | agg cs => exact o2_mono (v := .agg cs) h hm
 | ptr l o => exact o2_mono (v := .ptr l o) h hm
 | pst e o => exact o2_mono (v := .pst e o) h hm
 | fn f a c => exact o2_mono (v := .fn f a c) h hm
 | mp l => exact o2_mono (v := .mp l) h hm
 | fm es => exact o2_mono (v := .fm es) h hm
 | ws l o k c => exact o2_mono (v := .ws l o k c) h hm
 | wr l k o => exact o2_mono (v := .wr l k o) h hm
 | junk => exact o2_mono (v := .junk) h hm
theorem ren_all {us : List AV} (h : us.all (AV.ok 0) = true) (ρ : Nat → Nat) : us.map (AV.ren ρ) = us := map_id_of h fun v hv => ren_id hv (fun i hi => absurd hi (Nat.not_lt_zero _))
theorem sren0 {o : SObj} (h : o.ok 0 = true) (ρ : Nat → Nat) : o.ren ρ = o := by
 cases o with
 | cells cs =>
  have : cs.map (AV.r1 ρ) = cs := map_id_of (p := AV.o1 0) h fun v hv => by
   have := ren_id (ρ := ρ) (v := .agg [v]) (n := 0) (by simpa [AV.ok, AV.o2] using hv) (fun i hi => absurd hi (Nat.not_lt_zero _))
   simpa [AV.ren, AV.r2] using this
  show SObj.cells _ = _
  rw [this]
 | row cs e sz =>
  have : cs.map (AV.r1 ρ) = cs := map_id_of (p := AV.o1 0) h fun v hv => by
   have := ren_id (ρ := ρ) (v := .agg [v]) (n := 0) (by simpa [AV.ok, AV.o2] using hv) (fun i hi => absurd hi (Nat.not_lt_zero _))
   simpa [AV.ren, AV.r2] using this
  show SObj.row _ _ _ = _
  rw [this]
 | map es =>
  have h := List.all_eq_true.1 h
  show SObj.map _ = SObj.map es
  congr 1
  rw [List.map_congr_left (g := id) fun p hp => ?_, List.map_id]
  have := h p hp
  simp only [Bool.and_eq_true] at this
  have h1 := ren_id (ρ := ρ) (v := .agg [p.1]) (n := 0) (by simpa [AV.ok, AV.o2] using this.1) (fun i hi => absurd hi (Nat.not_lt_zero _))
  have h2 := ren_id (ρ := ρ) (v := .tup [p.2]) (n := 0) (by simpa [AV.ok] using this.2) (fun i hi => absurd hi (Nat.not_lt_zero _))
  have h1 : p.1.r1 ρ = p.1 := by simpa [AV.ren, AV.r2] using h1
  have h2 : p.2.r2 ρ = p.2 := by
   have h2 : AV.tup [p.2.r2 ρ] = AV.tup [p.2] := h2
   simp only [AV.tup.injEq, List.cons.injEq, and_true] at h2
   exact h2
  rw [h1, h2]; rfl
 | loop b D fn es ps asn bdy st =>
  have : es.map (AV.ren ρ) = es := map_id_of (p := AV.ok 0) h fun v hv => ren_id hv (fun i hi => absurd hi (Nat.not_lt_zero _))
  show SObj.loop _ _ _ _ _ _ _ _ = _
  rw [this]
 | _ => rfl
theorem sok1 {o : SObj} (h : o.ok 0 = true) : o.ok 1 = true := by
 cases o with
 | cells cs =>
  refine List.all_eq_true.2 fun v hv => ?_
  have := List.all_eq_true.1 h v hv
  have := ok_mono (v := .agg [v]) (n := 0) (m := 1) (by simpa [AV.ok, AV.o2] using this) (Nat.zero_le 1)
  simpa [AV.ok, AV.o2] using this
 | row cs e sz =>
  refine List.all_eq_true.2 fun v hv => ?_
  have := List.all_eq_true.1 h v hv
  have := ok_mono (v := .agg [v]) (n := 0) (m := 1) (by simpa [AV.ok, AV.o2] using this) (Nat.zero_le 1)
  simpa [AV.ok, AV.o2] using this
 | map es =>
  refine List.all_eq_true.2 fun p hp => ?_
  have := List.all_eq_true.1 h p hp
  simp only [Bool.and_eq_true] at *
  exact ⟨o1_mono this.1 (Nat.zero_le 1), o2_mono this.2 (Nat.zero_le 1)⟩
 | loop b D fn es ps asn bdy st => exact List.all_eq_true.2 fun v hv => ok_mono (List.all_eq_true.1 h v hv) (Nat.zero_le 1)
 | _ => rfl
theorem AC.here {args : List AV} {o o' : SObj} {v : AV} (h : AC P f (.ptr 0 0 :: args) [o] v [o']) (l : Nat) (T : Store) (ho : o.ok 0 = true) (ho' : o'.ok 0 = true) (ha : args.all (AV.ok 0) = true) (hv : v.ok 0 = true) (hT : T[l]? = some o) :
  AC P f (.ptr l 0 :: args) T v (T.set l o') := by
 have ha1 : ∀ u ∈ args, u.ok 1 = true := fun u hu => ok_mono (List.all_eq_true.1 ha u hu) (Nat.zero_le 1)
 have := AC.at1 h l (by rw [sren0 ho]; exact hT) (by simp only [List.all_cons, Bool.and_eq_true]; exact ⟨rfl, List.all_eq_true.2 ha1⟩) (ok_mono hv (Nat.zero_le 1)) (sok1 ho) (sok1 ho')
 rw [List.map_cons, ren_all ha, sren0 ho', ren_id hv (fun i hi => absurd hi (Nat.not_lt_zero _))] at this
 exact this
theorem c1 {args gargs : List AV} {T : Store} {o o' : SObj} {v : AV} (l : Nat) (h : AC P f (.ptr 0 0 :: args) [o] v [o']) (h' : ARg P pf rf rest (put e d v) (T.set l o') K)
  (ho : o.ok 0 = true := by rfl) (ho' : o'.ok 0 = true := by rfl) (ha : args.all (AV.ok 0) = true := by rfl) (hv : v.ok 0 = true := by rfl) (hT : T[l]? = some o := by rfl) (hg : gargs.map AV.wk = .ptr l 0 :: args := by rfl) :
  callP (AnyC P f gargs T) (ARgk P pf rf d rest e K) :=
 call_mk (show AC P f (gargs.map AV.wk) T v (T.set l o') by rw [hg]; exact h.here l T ho ho' ha hv hT) h'
theorem c1r {args gargs : List AV} {T : Store} {o : SObj} {v : AV} (l : Nat) (h : AC P f (.ptr 0 0 :: args) [o] v [o]) (h' : ARg P pf rf rest (put e d v) T K)
  (ho : o.ok 0 = true := by rfl) (ha : args.all (AV.ok 0) = true := by rfl) (hv : v.ok 0 = true := by rfl) (hT : T[l]? = some o := by rfl) (hg : gargs.map AV.wk = .ptr l 0 :: args := by rfl) (hset : T.set l o = T := by rfl) :
  callP (ReadC P f gargs T) (ARgk P pf rf d rest e K) :=
 call_mk (show (∀ R, AC P f (gargs.map AV.wk) (T ++ R) v (T ++ R)) ∧ T = T from ⟨fun R => by
  rw [hg]
  have := h.here l (T ++ R) ho ho ha hv (get_app hT R)
  rw [List.set_append_left _ _ (List.getElem?_eq_some_iff.1 hT).1, hset] at this
  exact this, rfl⟩) h'
end
theorem Weak.freeze (N0 : Nat) {e : Env} {S : Store} (d l : Nat) {es : List (AV × AV)} (hd : e d = .mp l) (hS : S[l]? = some (.map es)) (hok : (SObj.map es).ok 0 = true) : Weak N0 e S (upd e d (.fm es)) (S.set l .dead) := by
 rintro N w0 g0 a w hn ⟨h1, h2, g, h3, h4, h5⟩
 have hlS := (List.getElem?_eq_some_iff.1 hS).1
 obtain ⟨hb, hown, hG, me, clock, hheap, hsz, hlt, hnd, hrel⟩ := h3.obj l _ hS
 have hln : l < g.nid := by rw [h3.nid]; exact hlS
 let g' : Gh := { g with G := fun x => if x = g.pl l then 1 else g.G x }
 have hne : ∀ b, 0 < g.G b → b ≠ g.pl l := fun b h e => by rw [e, hG] at h; exact absurd h (Nat.lt_irrefl 0)
 have hle : Le w g w g' := ⟨fun _ _ _ _ h => h, fun b o v hb _ => by
  show o < (if b = g.pl l then 1 else g.G b)
  rw [if_neg (hne b (by omega))]; exact hb, Nat.le_refl _, fun _ _ => ⟨rfl, .inl ⟨rfl, rfl, rfl⟩⟩, fun b me c hg hm => ⟨by
  show 0 < (if b = g.pl l then 1 else g.G b)
  rw [if_neg (hne b hg)]; exact hg, hm⟩⟩
 have hren : RenOk w g w g'.noid id 0 := ⟨hle.noid, fun l hl => absurd hl (Nat.not_lt_zero _)⟩
 have hall := List.all_eq_true.1 (show (es.all fun p => p.1.o1 0 && p.2.o2 0) = true from hok)
 have hko : ∀ u ∈ es, u.1.o1 0 = true ∧ u.2.o2 0 = true := fun u hu => by simpa using hall u hu
 refine ⟨h1, h2, g', ⟨by rw [List.length_set]; exact h3.nid, fun k o hk => ?_, h3.disj, h3.lt, h3.tab.le hle⟩, fun t => ?_, h5.trans ⟨hle, rfl, rfl, rfl, Nat.le_refl _, fun _ _ _ => rfl, fun _ _ hk hb _ => ⟨hk, hb⟩, fun b _ hno => if_neg (fun e => hno l hln (by rw [e]; exact hown))⟩⟩
 ·by_cases hkl : k = l
  ·subst hkl; rw [List.getElem?_set_self hlS] at hk; cases hk; trivial
  ·rw [List.getElem?_set_ne (Ne.symm hkl)] at hk
   have hkn : k < g.nid := by rw [h3.nid]; exact (List.getElem?_eq_some_iff.1 hk).1
   refine (h3.obj k o hk).keep hle rfl rfl rfl rfl rfl (fun b hb' => ?_) (fun _ _ => rfl)
   exact if_neg (fun e => hkl (h3.disj k l b hkn hln hb' (by rw [e]; exact hown)))
 ·by_cases htd : t = d
  ·subst htd
   rw [upd_same]
   have ht := h4 t
   rw [hd] at ht
   generalize a.tmps.getD t undef = cv at ht
   cases ht
   refine .fm _ es (g.pl l) me clock (by show 0 < (if g.pl l = g.pl l then 1 else _); rw [if_pos rfl]; exact Nat.one_pos) hheap hsz (fun j u x hu hx => ?_) fun j u x hu hx => ?_
   ·have := (hrel j u x hu hx).1.r1 hren (hko u (List.mem_of_getElem? hu)).1
    rwa [r1_id (hko u (List.mem_of_getElem? hu)).1 (fun i hi => absurd hi (Nat.not_lt_zero _))] at this
   ·have := (hrel j u x hu hx).2.r2 hren (hko u (List.mem_of_getElem? hu)).2
    rwa [r2_id (hko u (List.mem_of_getElem? hu)).2 (fun i hi => absurd hi (Nat.not_lt_zero _))] at this
  ·rw [upd_ne e htd]; exact (h4 t).le hle
theorem AC.newAt {P : Program} {f : FuncId} {args : List AV} {o : SObj} (h : AC P f args [] (.ptr 0 0) [o]) (T : Store) (ha : args.all (AV.ok 0) = true := by rfl) (ho : o.ok 0 = true := by rfl) : AC P f args T (.ptr T.length 0) (T ++ [o]) := by
 have := AC.fresh1 h ha rfl (sok1 ho) T
 rw [sren0 ho] at this
 simpa [AV.ren, AV.r2, AV.r1, AV.r0] using this
theorem er0 {P : Program} {rs : List ResultVar} {v : AV} {e : Env} {S : Store} {vs : List AV} (h : aRes P rs e S = some vs := by rfl) (hk : v.ok 0 = true := by rfl) (hv : resV vs = v := by rfl) : finQ P rs 0 v [] .ret e S := ends_ret0 h hk hv
theorem en0 {P : Program} {rs : List ResultVar} {v : AV} {e : Env} {S : Store} {vs : List AV} (h : aRes P rs e S = some vs := by rfl) (hk : v.ok 0 = true := by rfl) (hv : resV vs = v := by rfl) : finQ P rs 0 v [] .norm e S := ends_norm0 h hk hv
theorem er1 {P : Program} {rs : List ResultVar} {v : AV} {e : Env} {S : Store} {o : SObj} {vs : List AV} (h : aRes P rs e S = some vs := by rfl) (ho : o.ok 1 = true := by rfl) (hS : S[0]? = some (o.ren (idx [0])) := by rfl) (hk : v.ok 1 = true := by rfl) (hv : resV vs = v.ren (idx [0]) := by rfl) : finQ P rs 1 v [o] .ret e S :=
 ends_ret (κ := [0]) h (subOk_one 0 ho hS) rfl hk hv
theorem en1 {P : Program} {rs : List ResultVar} {v : AV} {e : Env} {S : Store} {o : SObj} {vs : List AV} (h : aRes P rs e S = some vs := by rfl) (ho : o.ok 1 = true := by rfl) (hS : S[0]? = some (o.ren (idx [0])) := by rfl) (hk : v.ok 1 = true := by rfl) (hv : resV vs = v.ren (idx [0]) := by rfl) : finQ P rs 1 v [o] .norm e S :=
 ⟨e, S, vs, [0], Weak.refl 1 e S, h, subOk_one 0 ho hS, rfl, hk, .inl hv⟩
theorem er1w {P : Program} {rs : List ResultVar} {v : AV} {e : Env} {S : Store} {o : SObj} {vs : List AV} (h : aRes P rs e S = some vs := by rfl) (ho : o.ok 1 = true := by rfl) (hS : S[0]? = some (o.ren (idx [0])) := by rfl) (hk : v.ok 1 = true := by rfl) (hv : (resV vs).wk = v.ren (idx [0]) := by rfl) : finQ P rs 1 v [o] .ret e S :=
 ⟨e, S, vs, [0], Weak.refl 1 e S, h, subOk_one 0 ho hS, rfl, hk, .inr hv⟩
theorem er0w {P : Program} {rs : List ResultVar} {v : AV} {e : Env} {S : Store} {vs : List AV} (h : aRes P rs e S = some vs := by rfl) (hk : v.ok 0 = true := by rfl) (hv : (resV vs).wk = v := by rfl) : finQ P rs 0 v [] .ret e S := ends_ret0w h hk hv
end Go.Proofs.Ytjicccjpooahoaa.Pe
