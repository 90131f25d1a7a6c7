/- A part. -/
import Derived.Test.YtldohjjoicmfpaaGreatDoorKr6
import Derived.Test.YtldohjjoicmfpaaGreatDoorChecked
import Derived.WalkKit
import Derived.ProofKit
import Derived.WalkSpells
import Derived.Lib.Hide
import Derived.WalkLawsBesides
import Derived.BigRegion
import Derived.RegionTactic
import Derived.BigQuiet
import Derived.Deep.RegionLaw
set_option linter.unusedSectionVars false
set_option linter.unusedVariables false
set_option linter.unusedSimpArgs false
namespace Go.Proofs.YtldohjjoicmfpaaGreatDoor
section
namespace Pe
open Tryz
open Go
variable [Tab]
set_option maxRecDepth 100000
theorem an {a b : Prop} (x : a) (y : b) : a ∧ b := ⟨x, y⟩
theorem PW {A B : Prop} (h : B) (e : A = B := by
    conv =>
      lhs
      simp only [C7, B4, DB, List.map_cons, List.map_nil, List.map_toArray, List.getElem?_toArray, List.getElem?_cons_zero, List.getElem?_cons_succ, Option.bind_some, Option.bind_none, List.append_eq, List.cons_append, List.nil_append]) : A := e ▸ h
theorem Ad {A : Prop} (h : A := by first | rfl | (simp only [↓Lk, ↓Mi, ↓reduceIte, Nat.reduceEqDiff, ↓M9, ↓Na, *]; done)) : A := h
theorem A3 {p0 p1 p2 : Prop} (x0 : p0) (x1 : p1) (x2 : p2) : p0 ∧ p1 ∧ p2 := ⟨x0, x1, x2⟩
theorem A4 {p0 p1 p2 p3 : Prop} (x0 : p0) (x1 : p1) (x2 : p2) (x3 : p3) : p0 ∧ p1 ∧ p2 ∧ p3 := ⟨x0, x1, x2, x3⟩
theorem A5 {p0 p1 p2 p3 p4 : Prop} (x0 : p0) (x1 : p1) (x2 : p2) (x3 : p3) (x4 : p4) : p0 ∧ p1 ∧ p2 ∧ p3 ∧ p4 := ⟨x0, x1, x2, x3, x4⟩
theorem A6 {p0 p1 p2 p3 p4 p5 : Prop} (x0 : p0) (x1 : p1) (x2 : p2) (x3 : p3) (x4 : p4) (x5 : p5) : p0 ∧ p1 ∧ p2 ∧ p3 ∧ p4 ∧ p5 := ⟨x0, x1, x2, x3, x4, x5⟩
theorem A7 {p0 p1 p2 p3 p4 p5 p6 : Prop} (x0 : p0) (x1 : p1) (x2 : p2) (x3 : p3) (x4 : p4) (x5 : p5) (x6 : p6) : p0 ∧ p1 ∧ p2 ∧ p3 ∧ p4 ∧ p5 ∧ p6 := ⟨x0, x1, x2, x3, x4, x5, x6⟩
theorem A8 {p0 p1 p2 p3 p4 p5 p6 p7 : Prop} (x0 : p0) (x1 : p1) (x2 : p2) (x3 : p3) (x4 : p4) (x5 : p5) (x6 : p6) (x7 : p7) : p0 ∧ p1 ∧ p2 ∧ p3 ∧ p4 ∧ p5 ∧ p6 ∧ p7 := ⟨x0, x1, x2, x3, x4, x5, x6, x7⟩
theorem A9 {p0 p1 p2 p3 p4 p5 p6 p7 p8 : Prop} (x0 : p0) (x1 : p1) (x2 : p2) (x3 : p3) (x4 : p4) (x5 : p5) (x6 : p6) (x7 : p7) (x8 : p8) : p0 ∧ p1 ∧ p2 ∧ p3 ∧ p4 ∧ p5 ∧ p6 ∧ p7 ∧ p8 := ⟨x0, x1, x2, x3, x4, x5, x6, x7, x8⟩
theorem Gv {p0 p1 p2 p3 p4 p5 p6 p7 p8 p9 : Prop} (x0 : p0) (x1 : p1) (x2 : p2) (x3 : p3) (x4 : p4) (x5 : p5) (x6 : p6) (x7 : p7) (x8 : p8) (x9 : p9) : p0 ∧ p1 ∧ p2 ∧ p3 ∧ p4 ∧ p5 ∧ p6 ∧ p7 ∧ p8 ∧ p9 := ⟨x0, x1, x2, x3, x4, x5, x6, x7, x8, x9⟩
theorem Bg {p0 p1 p2 p3 p4 p5 p6 p7 p8 p9 p10 : Prop} (x0 : p0) (x1 : p1) (x2 : p2) (x3 : p3) (x4 : p4) (x5 : p5) (x6 : p6) (x7 : p7) (x8 : p8) (x9 : p9) (x10 : p10) : p0 ∧ p1 ∧ p2 ∧ p3 ∧ p4 ∧ p5 ∧ p6 ∧ p7 ∧ p8 ∧ p9 ∧ p10 := ⟨x0, x1, x2, x3, x4, x5, x6, x7, x8, x9, x10⟩
theorem run {A B : Prop} (h : B) (e : A = B := by
  conv =>
   lhs
   (try simp only [Nj, Nl, Nm, Fe, FJ])
   (try simp -implicitDefEqProofs (maxSteps := 4000000) (disch := (first | omega | (simp only [List.length_append, List.length_cons, List.length_map, List.length_nil, List.length_take, List.length_drop]; omega))) only [↓K7, K8, CJ, ↓reduceIte, Nat.reduceEqDiff, Nat.reduceAdd, Nat.reduceLT, Nat.reduceLeDiff, Nat.reduceMul, Nat.reduceSub, Int.reduceToNat, Int.reduceAdd, Int.reduceSub, Int.reduceMul, Int.reduceNeg, Int.reduceLE, Int.reduceLT, Int.reduceEq, Int.reduceBEq, Int.reduceBNe, Nat.reduceBEq, Nat.reduceBNe, DX, Fm, Gq, Hq, II, IE, Hd, Gr, Hu, HM, HQ, HH, HJ, Fo, DW, He, IG, IH, HG, HE, FT, Fk, C4, FF, Fc, Ij, IF, Hj, Hz, IJ, Gs, F0, Hg, C1, GP, apart, ED, EB, HL, Fu, Gw, EY, AV.wk, AV.wk2, AV.wk1, AV.cells, AV.solid, AV.ro, AV.ro1, ← List.map_take, ← List.map_drop, reduceCtorEq, Option.isNone_some, Option.isSome_none, LP, LN, LB, Ls, Lr, Lq, Lp, Lo, Ln, Lm, LM, LL, LK, LJ, LI, LH, LF, LE, LD, LC, LA, Ly, Lx, Lw, Lv, Lu, Lt])
   (try simp only [Fe, FJ])) : A := e ▸ h
theorem Aa {F A B : Prop} (f : F) (h : B) (e : F → A = B := by
  intro f;conv =>
   lhs
   (try simp only [Nj, Nl, Nm, Fe, FJ])
   (try simp -implicitDefEqProofs (maxSteps := 4000000) (disch := (first | omega | (simp only [List.length_append, List.length_cons, List.length_map, List.length_nil, List.length_take, List.length_drop]; omega))) only [↓K7, K8, CJ, ↓reduceIte, Nat.reduceEqDiff, Nat.reduceAdd, Nat.reduceLT, Nat.reduceLeDiff, Nat.reduceMul, Nat.reduceSub, Int.reduceToNat, Int.reduceAdd, Int.reduceSub, Int.reduceMul, Int.reduceNeg, Int.reduceLE, Int.reduceLT, Int.reduceEq, Int.reduceBEq, Int.reduceBNe, Nat.reduceBEq, Nat.reduceBNe, DX, Fm, Gq, Hq, II, IE, Hd, Gr, Hu, HM, HQ, HH, HJ, Fo, DW, He, IG, IH, HG, HE, FT, Fk, C4, FF, Fc, Ij, IF, Hj, Hz, IJ, Gs, F0, Hg, C1, GP, apart, ED, EB, HL, Fu, Gw, EY, AV.wk, AV.wk2, AV.wk1, AV.cells, AV.solid, AV.ro, AV.ro1, ← List.map_take, ← List.map_drop, reduceCtorEq, Option.isNone_some, Option.isSome_none, LP, LN, LB, Ls, Lr, Lq, Lp, Lo, Ln, Lm, LM, LL, LK, LJ, LI, LH, LF, LE, LD, LC, LA, Ly, Lx, Lw, Lv, Lu, Lt, f])
   (try simp only [Fe, FJ])) : A := e f ▸ h
section
variable {P : Program} {pf rf : List FuncId} {e : Af} {f : FuncId} {d : Option Nat} {rest : List AO} {K : Af → Ae → Prop}
theorem cp {args args' : List AV} {S : Ae} {v : AV} (h : AC P f args' [] v []) (h' : Bh P pf rf rest (put e d v) S K)
  (ha : args.map AV.wk = args' := by rfl) (hk : args'.all (AV.ok 0) = true := by rfl) (hv : v.ok 0 = true := by rfl) : BL (JG P f args S) (CN P pf rf d rest e K) := DF h ha hk hv h'
theorem DR {v : AV} {n m : Nat} (h : v.o0 n = true) (hm : n ≤ m) : v.o0 m = true := by
 cases v with
 | sl mo es => cases mo <;> simp_all [AV.o0]; omega
 | ptr l o => simp only [AV.o0, decide_eq_true_eq] at *; omega
 | mp l => simp only [AV.o0, decide_eq_true_eq] at *; omega
 | ws l o k c => simp only [AV.o0, decide_eq_true_eq] at *; omega
 | wr l k o => simp only [AV.o0, decide_eq_true_eq] at *; omega
 | _ => simp_all [AV.o0]
theorem DQ {v : AV} {n m : Nat} (h : v.o1 n = true) (hm : n ≤ m) : v.o1 m = true := by
 cases v with
 | fn g a c =>
  simp only [AV.o1, Bool.and_eq_true, List.all_eq_true] at *;exact ⟨fun x hx => DR (h.1 x hx) hm, fun x hx => DR (h.2 x hx) hm⟩
 | bo b => exact DR (v := .bo b) h hm
 | it k i => exact DR (v := .it k i) h hm
 | st l => exact DR (v := .st l) h hm
 | ot v => exact DR (v := .ot v) h hm
 | sl m' es => exact DR (v := .sl m' es) h hm
 | agg cs => exact DR (v := .agg cs) h hm
 | tup vs => exact DR (v := .tup vs) h hm
 | ptr l o => exact DR (v := .ptr l o) h hm
 | pst e o => exact DR (v := .pst e o) h hm
 | mp l => exact DR (v := .mp l) h hm
 | fm es => exact DR (v := .fm es) h hm
 | ws l o k c => exact DR (v := .ws l o k c) h hm
 | wr l k o => exact DR (v := .wr l k o) h hm
 | junk => exact DR (v := .junk) h hm
theorem DP {v : AV} {n m : Nat} (h : v.o2 n = true) (hm : n ≤ m) : v.o2 m = true := by
 cases v with
 | agg cs =>
  simp only [AV.o2, List.all_eq_true] at *;exact fun x hx => DQ (h x hx) hm
 | bo b => exact DQ (v := .bo b) h hm
 | it k i => exact DQ (v := .it k i) h hm
 | st l => exact DQ (v := .st l) h hm
 | ot v => exact DQ (v := .ot v) h hm
 | sl m' es => exact DQ (v := .sl m' es) h hm
 | tup vs => exact DQ (v := .tup vs) h hm
 | ptr l o => exact DQ (v := .ptr l o) h hm
 | pst e o => exact DQ (v := .pst e o) h hm
 | fn f a c => exact DQ (v := .fn f a c) h hm
 | mp l => exact DQ (v := .mp l) h hm
 | fm es => exact DQ (v := .fm es) h hm
 | ws l o k c => exact DQ (v := .ws l o k c) h hm
 | wr l k o => exact DQ (v := .wr l k o) h hm
 | junk => exact DQ (v := .junk) h hm
theorem CT {v : AV} {n m : Nat} (h : v.ok n = true) (hm : n ≤ m) : v.ok m = true := by
 cases v with
 | tup cs =>
  simp only [AV.ok, List.all_eq_true] at *;exact fun x hx => DP (h x hx) hm
 | bo b => exact DP (v := .bo b) h hm
 | it k i => exact DP (v := .it k i) h hm
 | st l => exact DP (v := .st l) h hm
 | ot v => exact DP (v := .ot v) h hm
 | sl m' es => exact DP (v := .sl m' es) h hm
 | agg cs => exact DP (v := .agg cs) h hm
 | ptr l o => exact DP (v := .ptr l o) h hm
 | pst e o => exact DP (v := .pst e o) h hm
 | fn f a c => exact DP (v := .fn f a c) h hm
 | mp l => exact DP (v := .mp l) h hm
 | fm es => exact DP (v := .fm es) h hm
 | ws l o k c => exact DP (v := .ws l o k c) h hm
 | wr l k o => exact DP (v := .wr l k o) h hm
 | junk => exact DP (v := .junk) h hm
theorem F5 {us : List AV} (h : us.all (AV.ok 0) = true) (ρ : Nat → Nat) : us.map (AV.ren ρ) = us := Ew h fun v hv => Cn hv (fun i hi => absurd hi (Nat.not_lt_zero _))
theorem NL {o : SObj} (h : o.ok 0 = true) (ρ : Nat → Nat) : o.ren ρ = o := by
 cases o with
 | cells cs =>
  have : cs.map (AV.r1 ρ) = cs := Ew (p := AV.o1 0) h fun v hv => by
   have := Cn (ρ := ρ) (v := .agg [v]) (n := 0) (by simpa [AV.ok, AV.o2] using hv) (fun i hi => absurd hi (Nat.not_lt_zero _))
   simpa [AV.ren, AV.r2] using this
  show SObj.cells _ = _
  rw [this]
 | row cs e sz =>
  have : cs.map (AV.r1 ρ) = cs := Ew (p := AV.o1 0) h fun v hv => by
   have := Cn (ρ := ρ) (v := .agg [v]) (n := 0) (by simpa [AV.ok, AV.o2] using hv) (fun i hi => absurd hi (Nat.not_lt_zero _))
   simpa [AV.ren, AV.r2] using this
  show SObj.row _ _ _ = _
  rw [this]
 | map es =>
  have h := List.all_eq_true.1 h;show SObj.map _ = SObj.map es
  congr 1
  rw [List.map_congr_left (g := id) fun p hp => ?_, List.map_id]
  have := h p hp;simp only [Bool.and_eq_true] at this;have h1 := Cn (ρ := ρ) (v := .agg [p.1]) (n := 0) (by simpa [AV.ok, AV.o2] using this.1) (fun i hi => absurd hi (Nat.not_lt_zero _))
  have h2 := Cn (ρ := ρ) (v := .tup [p.2]) (n := 0) (by simpa [AV.ok] using this.2) (fun i hi => absurd hi (Nat.not_lt_zero _))
  have h1 : p.1.r1 ρ = p.1 := by simpa [AV.ren, AV.r2] using h1
  have h2 : p.2.r2 ρ = p.2 := by
   have h2 : AV.tup [p.2.r2 ρ] = AV.tup [p.2] := h2;simp only [AV.tup.injEq, List.cons.injEq, and_true] at h2;exact h2
  rw [h1, h2]; rfl
 | loop b D fn es ps asn bdy st =>
  have : es.map (AV.ren ρ) = es := Ew (p := AV.ok 0) h fun v hv => Cn hv (fun i hi => absurd hi (Nat.not_lt_zero _))
  show SObj.loop _ _ _ _ _ _ _ _ = _
  rw [this]
 | _ => rfl
theorem NM {o : SObj} (h : o.ok 0 = true) : o.ok 1 = true := by
 cases o with
 | cells cs =>
  refine List.all_eq_true.2 fun v hv => ?_
  have := List.all_eq_true.1 h v hv;have := CT (v := .agg [v]) (n := 0) (m := 1) (by simpa [AV.ok, AV.o2] using this) (Nat.zero_le 1)
  simpa [AV.ok, AV.o2] using this
 | row cs e sz =>
  refine List.all_eq_true.2 fun v hv => ?_
  have := List.all_eq_true.1 h v hv;have := CT (v := .agg [v]) (n := 0) (m := 1) (by simpa [AV.ok, AV.o2] using this) (Nat.zero_le 1)
  simpa [AV.ok, AV.o2] using this
 | map es =>
  refine List.all_eq_true.2 fun p hp => ?_
  have := List.all_eq_true.1 h p hp;simp only [Bool.and_eq_true] at *;exact ⟨DQ this.1 (Nat.zero_le 1), DP this.2 (Nat.zero_le 1)⟩
 | loop b D fn es ps asn bdy st => exact List.all_eq_true.2 fun v hv => CT (List.all_eq_true.1 h v hv) (Nat.zero_le 1)
 | _ => rfl
theorem AC.here {args : List AV} {o o' : SObj} {v : AV} (h : AC P f (.ptr 0 0 :: args) [o] v [o']) (l : Nat) (T : Ae) (ho : o.ok 0 = true) (ho' : o'.ok 0 = true) (ha : args.all (AV.ok 0) = true) (hv : v.ok 0 = true) (hT : T[l]? = some o) :
  AC P f (.ptr l 0 :: args) T v (T.set l o') := by
 have ha1 : ∀ u ∈ args, u.ok 1 = true := fun u hu => CT (List.all_eq_true.1 ha u hu) (Nat.zero_le 1)
 have := AC.at1 h l (by rw [NL ho]; exact hT) (by simp only [List.all_cons, Bool.and_eq_true]; exact ⟨rfl, List.all_eq_true.2 ha1⟩) (CT hv (Nat.zero_le 1)) (NM ho) (NM ho')
 rw [List.map_cons, F5 ha, NL ho', Cn hv (fun i hi => absurd hi (Nat.not_lt_zero _))] at this
 exact this
theorem c1 {args gargs : List AV} {T : Ae} {o o' : SObj} {v : AV} (l : Nat) (h : AC P f (.ptr 0 0 :: args) [o] v [o']) (h' : Bh P pf rf rest (put e d v) (T.set l o') K)
  (ho : o.ok 0 = true := by rfl) (ho' : o'.ok 0 = true := by rfl) (ha : args.all (AV.ok 0) = true := by rfl) (hv : v.ok 0 = true := by rfl) (hT : T[l]? = some o := by rfl) (hg : gargs.map AV.wk = .ptr l 0 :: args := by rfl) :
  BL (EE P f gargs T) (CN P pf rf d rest e K) :=
 Au (show AC P f (gargs.map AV.wk) T v (T.set l o') by rw [hg]; exact h.here l T ho ho' ha hv hT) h'
theorem Px {args gargs : List AV} {T : Ae} {o : SObj} {v : AV} (l : Nat) (h : AC P f (.ptr 0 0 :: args) [o] v [o]) (h' : Bh P pf rf rest (put e d v) T K)
  (ho : o.ok 0 = true := by rfl) (ha : args.all (AV.ok 0) = true := by rfl) (hv : v.ok 0 = true := by rfl) (hT : T[l]? = some o := by rfl) (hg : gargs.map AV.wk = .ptr l 0 :: args := by rfl) (hset : T.set l o = T := by rfl) :
  BL (IM P f gargs T) (CN P pf rf d rest e K) :=
 Au (show (∀ R, AC P f (gargs.map AV.wk) (T ++ R) v (T ++ R)) ∧ T = T from ⟨fun R => by
  rw [hg];have := h.here l (T ++ R) ho ho ha hv (Dy hT R);rw [List.set_append_left _ _ (List.getElem?_eq_some_iff.1 hT).1, hset] at this
  exact this, rfl⟩) h'
end
theorem Ay.freeze (N0 : Nat) {e : Af} {S : Ae} (d l : Nat) {es : List (AV × AV)} (hd : e d = .mp l) (hS : S[l]? = some (.map es)) (hok : (SObj.map es).ok 0 = true) : Ay N0 e S (upd e d (.fm es)) (S.set l .dead) := by
 rintro N w0 g0 a w hn ⟨h1, h2, g, h3, h4, h5⟩
 have hlS := (List.getElem?_eq_some_iff.1 hS).1
 obtain ⟨hb, hown, hG, me, clock, hheap, hsz, hlt, hnd, hrel⟩ := h3.obj l _ hS;have hln : l < g.nid := by rw [h3.nid]; exact hlS
 let g' : Gh := { g with G := fun x => if x = g.pl l then 1 else g.G x }
 have hne : ∀ b, 0 < g.G b → b ≠ g.pl l := fun b h e => by rw [e, hG] at h; exact absurd h (Nat.lt_irrefl 0)
 have hle : Le w g w g' := ⟨fun _ _ _ _ h => h, fun b o v hb _ => by
  show o < (if b = g.pl l then 1 else g.G b)
  rw [if_neg (hne b (by omega))]; exact hb, Nat.le_refl _, fun _ _ => ⟨rfl, .inl ⟨rfl, rfl, rfl⟩⟩, fun b me c hg hm => ⟨by
  show 0 < (if b = g.pl l then 1 else g.G b)
  rw [if_neg (hne b hg)]; exact hg, hm⟩⟩
 have hren : RenOk w g w g'.noid id 0 := ⟨hle.noid, fun l hl => absurd hl (Nat.not_lt_zero _)⟩
 have hall := List.all_eq_true.1 (show (es.all fun p => p.1.o1 0 && p.2.o2 0) = true from hok)
 have hko : ∀ u ∈ es, u.1.o1 0 = true ∧ u.2.o2 0 = true := fun u hu => by simpa using hall u hu
 refine ⟨h1, h2, g', ⟨by rw [List.length_set]; exact h3.nid, fun k o hk => ?_, h3.disj, h3.lt, h3.tab.le hle⟩, fun t => ?_, h5.trans ⟨hle, rfl, rfl, rfl, Nat.le_refl _, fun _ _ _ => rfl, fun _ _ hk hb _ => ⟨hk, hb⟩, fun b _ hno => if_neg (fun e => hno l hln (by rw [e]; exact hown))⟩⟩
 ·by_cases hkl : k = l
  ·subst hkl; rw [List.getElem?_set_self hlS] at hk; cases hk; trivial
  ·rw [List.getElem?_set_ne (Ne.symm hkl)] at hk
   have hkn : k < g.nid := by rw [h3.nid]; exact (List.getElem?_eq_some_iff.1 hk).1
   refine (h3.obj k o hk).keep hle rfl rfl rfl rfl rfl (fun b hb' => ?_) (fun _ _ => rfl)
   exact if_neg (fun e => hkl (h3.disj k l b hkn hln hb' (by rw [e]; exact hown)))
 ·by_cases htd : t = d
  ·subst htd
   rw [upd_same];have ht := h4 t;rw [hd] at ht;generalize a.tmps.getD t undef = cv at ht;cases ht
   refine .fm _ es (g.pl l) me clock (by show 0 < (if g.pl l = g.pl l then 1 else _); rw [if_pos rfl]; exact Nat.one_pos) hheap hsz (fun j u x hu hx => ?_) fun j u x hu hx => ?_
   ·have := (hrel j u x hu hx).1.r1 hren (hko u (List.mem_of_getElem? hu)).1
    rwa [DM (hko u (List.mem_of_getElem? hu)).1 (fun i hi => absurd hi (Nat.not_lt_zero _))] at this
   ·have := (hrel j u x hu hx).2.r2 hren (hko u (List.mem_of_getElem? hu)).2
    rwa [DL (hko u (List.mem_of_getElem? hu)).2 (fun i hi => absurd hi (Nat.not_lt_zero _))] at this
  ·rw [upd_ne e htd]; exact (h4 t).le hle
theorem AC.newAt {P : Program} {f : FuncId} {args : List AV} {o : SObj} (h : AC P f args [] (.ptr 0 0) [o]) (T : Ae) (ha : args.all (AV.ok 0) = true := by rfl) (ho : o.ok 0 = true := by rfl) : AC P f args T (.ptr T.length 0) (T ++ [o]) := by
 have := AC.fresh1 h ha rfl (NM ho) T;rw [NL ho] at this;simpa [AV.ren, AV.r2, AV.r1, AV.r0] using this
theorem Ab {P : Program} {rs : List ResultVar} {v : AV} {e : Af} {S : Ae} {vs : List AV} (h : CM P rs e S = some vs := by rfl) (hk : v.ok 0 = true := by rfl) (hv : Dh vs = v := by rfl) : C6 P rs 0 v [] .ret e S := Ct h hk hv
theorem Bj {P : Program} {rs : List ResultVar} {v : AV} {e : Af} {S : Ae} {o : SObj} {vs : List AV} (h : CM P rs e S = some vs := by rfl) (ho : o.ok 1 = true := by rfl) (hS : S[0]? = some (o.ren (At [0])) := by rfl) (hk : v.ok 1 = true := by rfl) (hv : Dh vs = v.ren (At [0]) := by rfl) : C6 P rs 1 v [o] .ret e S :=
 Aq (κ := [0]) h (EI 0 ho hS) rfl hk hv
theorem MO {P : Program} {rs : List ResultVar} {v : AV} {e : Af} {S : Ae} {o : SObj} {vs : List AV} (h : CM P rs e S = some vs := by rfl) (ho : o.ok 1 = true := by rfl) (hS : S[0]? = some (o.ren (At [0])) := by rfl) (hk : v.ok 1 = true := by rfl) (hv : Dh vs = v.ren (At [0]) := by rfl) : C6 P rs 1 v [o] .norm e S :=
 ⟨e, S, vs, [0], Ay.refl 1 e S, h, EI 0 ho hS, rfl, hk, .inl hv⟩
theorem GZ {P : Program} {rs : List ResultVar} {v : AV} {e : Af} {S : Ae} {o : SObj} {vs : List AV} (h : CM P rs e S = some vs := by rfl) (ho : o.ok 1 = true := by rfl) (hS : S[0]? = some (o.ren (At [0])) := by rfl) (hk : v.ok 1 = true := by rfl) (hv : (Dh vs).wk = v.ren (At [0]) := by rfl) : C6 P rs 1 v [o] .ret e S :=
 ⟨e, S, vs, [0], Ay.refl 1 e S, h, EI 0 ho hS, rfl, hk, .inr hv⟩
theorem AH {P : Program} {rs : List ResultVar} {v : AV} {e : Af} {S : Ae} {vs : List AV} (h : CM P rs e S = some vs := by rfl) (hk : v.ok 0 = true := by rfl) (hv : (Dh vs).wk = v := by rfl) : C6 P rs 0 v [] .ret e S := ZdE h hk hv
end Pe
end
section
namespace Pe
open Tryz
open Go Go.RowKit
variable [Tab]
def Cc (md : Region.Mode) (ops : Array Oper) (k : Nat) : Nat → Nat → Bool
 | 0, j => j == k
 | n + 1, j => j == k || (match ops[j]? with
  | none => false
  | some oj => oj.after.any fun e => Region.binds md e && Cc md ops k n e.on)
theorem U2 {md : Region.Mode} {ops : Array Oper} {k : Nat} {listed : Array Bool} (hinv : ∀ n j, Cc md ops k n j = true → listed.getD j true = false) {j : Nat} (hj : j ∈ Region.ready md ops listed) (hne : j ≠ k) (n : Nat) : Cc md ops k n j = false := by
 have h0 : (j == k) = false := by simpa using hne
 cases n with
 | zero => exact h0
 | succ n =>
  obtain ⟨_, oj, hoj, hall⟩ := mem_ready.1 hj;cases hd : Cc md ops k (n + 1) j with
  | false => rfl
  | true =>
   exfalso;unfold Cc at hd;rw [h0, hoj, Bool.false_or] at hd;simp only at hd
   rw [Array.any_eq_true'] at hd;obtain ⟨e, he, h2⟩ := hd;simp only [Bool.and_eq_true] at h2;have h3 := hinv n e.on h2.2;have h1 := hall e he h2.1;rcases Nat.lt_or_ge e.on listed.size with h' | h'
   ·simp [h'] at h3 h1; rw [h3] at h1; cases h1
   ·simp [Array.getElem?_eq_none h'] at h1
def MF (cls : Op → Cls) (md : Region.Mode) (ops : Array Oper) (listed : Array Bool) (k : Nat) : Bool :=
 match ops[k]? with
 | none => false
 | some ok => (List.range ops.size).all fun j =>
  match ops[j]? with
  | none => true
  | some oj => j == k || listed.getD j true || Cc md ops k 8 j || FK cls ops ok oj
def OI (md : Region.Mode) (ops : Array Oper) : Bool := (List.range ops.size).all fun j => match ops[j]? with
 | none => true
 | some oj => oj.after.all fun e => !Region.binds md e || decide (e.on < j)
theorem Zci {md : Region.Mode} {ops : Array Oper} (h : OI md ops = true) (k : Nat) : ∀ n j, Cc md ops k n j = true → k ≤ j := by
 intro n;induction n with
 | zero => intro j hj; unfold Cc at hj; have := beq_iff_eq.1 hj; omega
 | succ n ih =>
  intro j hj;unfold Cc at hj;rw [Bool.or_eq_true] at hj;rcases hj with hj | hj
  ·have := beq_iff_eq.1 hj; omega
  ·cases ho : ops[j]? with
   | none => rw [ho] at hj; cases hj
   | some oj =>
    rw [ho] at hj;simp only at hj
    rw [Array.any_eq_true'] at hj;obtain ⟨e, he, h2⟩ := hj;simp only [Bool.and_eq_true] at h2;have h3 := ih e.on h2.2;have hlt : j < ops.size := (Array.getElem?_eq_some_iff.1 ho).1
    have h4 := (List.all_eq_true.1 h) j (List.mem_range.2 hlt);rw [ho] at h4;simp only at h4
    have h5 := (Array.all_eq_true_iff_forall_mem.1 h4) e he;rw [h2.1] at h5
    have : e.on < j := by simpa using h5
    omega
def Kr (cls : Op → Cls) (md : Region.Mode) (ops : Array Oper) : Nat → Nat → Array Bool → Bool
 | 0, _, listed => (Region.ready md ops listed).isEmpty
 | fuel + 1, k, listed => (Region.ready md ops listed).contains k && MF cls md ops listed k && Kr cls md ops fuel (k + 1) (listed.setIfInBounds k true)
def MA (cls : Op → Cls) (ops : Array Oper) : Bool := OI .any ops && Kr cls .any ops ops.size 0 (Array.replicate ops.size false)
theorem TX {cls : Op → Cls} {md : Region.Mode} {ops : Array Oper} {listed : Array Bool} {k : Nat} {ok : Oper} (hk : ops[k]? = some ok) (h : MF cls md ops listed k = true) :
  ∀ (j : Nat) oj, ops[j]? = some oj → j ≠ k → listed.getD j true = false → (∀ n, Cc md ops k n j = false) → FK cls ops ok oj = true := by
 intro j oj hj hne hun hno;unfold MF at h;rw [hk] at h;simp only at h
 have hlt : j < ops.size := (Array.getElem?_eq_some_iff.1 hj).1
 have h1 := (List.all_eq_true.1 h) j (List.mem_range.2 hlt);rw [hj] at h1;simp only [Bool.or_eq_true, beq_iff_eq] at h1;rcases h1 with ((h1 | h1) | h1) | h1
 ·exact absurd h1 hne
 ·rw [hun] at h1; cases h1
 ·rw [hno 8] at h1; cases h1
 ·exact h1
section
variable {P : Program} {N N0 : Nat} {w0 : World} {g0 : Gh} {pf rf : List FuncId}
theorem Qf {cls : Op → Cls} {md : Region.Mode} {ops : Array Oper} {Q : Af → Ae → Prop} {i : Nat} {oi : Oper} {v : AV} (hi : ops[i]? = some oi) :
  ∀ (fuel : Nat) (listed : Array Bool) (e : Af) (S Si : Ae),
   (∀ n j, Cc md ops i n j = true → listed.getD j true = false) →
   (∀ (j : Nat) oj, ops[j]? = some oj → j ≠ i → listed.getD j true = false → (∀ n, Cc md ops i n j = false) → FK cls ops oi oj = true) →
   i ∈ Region.ready md ops listed → IL P cls ops oi e S v Si →
   FV P cls md ops Q fuel (listed.setIfInBounds i true) (Pe.put e oi.dst v) Si → FV P cls md ops Q (fuel + 1) listed e S := by
 intro fuel;induction fuel with
 | zero =>
  intro listed e S Si _ _ hr hy H;refine ⟨fun h => (by rw [h] at hr; cases hr), fun j hj => ?_⟩
  by_cases hji : j = i
  ·subst hji; exact hy.xOp hi H
  ·have := ready_mono hj hji
   rw [H.1] at this;cases this
 | succ fuel ih =>
  intro listed e S Si hinv hfree hr hy H;refine ⟨fun h => (by rw [h] at hr; cases hr), fun j hj => ?_⟩
  by_cases hji : j = i
  ·subst hji; exact hy.xOp hi H
  ·have h1 := H.2 j (ready_mono hj hji)
   have hnd := U2 hinv hj hji;obtain ⟨hjun, oj, hoj, hall⟩ := mem_ready.1 hj;have h2 := P2 hoj (hfree j oj hoj hji hjun hnd) hy h1;have hinv' : ∀ n k, Cc md ops i n k = true → (listed.setIfInBounds j true).getD k true = false := fun n k hk => by
    have hjk : j ≠ k := fun e => by rw [← e, hnd n] at hk; cases hk
    rw [getD_set_ne true hjk];exact hinv n k hk
   have hfree' : ∀ (k : Nat) ok, ops[k]? = some ok → k ≠ i → (listed.setIfInBounds j true).getD k true = false →
     (∀ n, Cc md ops i n k = false) → FK cls ops oi ok = true := fun k ok hk hki hun hno => by
    refine hfree k ok hk hki ?_ hno
    by_cases hjk : j = k
    ·subst hjk; exact hjun
    ·rw [getD_set_ne true hjk] at hun; exact hun
   refine P3 (fun e' S' h3 => ?_) h2
   obtain ⟨Si', h3, h4⟩ := h3;refine ih (listed.setIfInBounds j true) e' S' Si' hinv' hfree' (ready_mono hr (Ne.symm hji)) h3 ?_
   rw [Array.setIfInBounds_comm _ _ hji];exact h4
theorem Qd {cls : Op → Cls} {md : Region.Mode} {ops : Array Oper} {Q : Af → Ae → Prop} (hlate : OI md ops = true) : ∀ (l : List Oper) (k : Nat) (listed : Array Bool) (e : Af) (S : Ae), (∀ j, l[j]? = ops[k + j]?) →
  (∀ j, k ≤ j → j < ops.size → listed.getD j true = false) → listed.size = ops.size →
  Kr cls md ops l.length k listed = true → DH P cls ops Q l e S → FV P cls md ops Q l.length listed e S
 | [], _, _, _, _, _, _, _, hB, h => ⟨by simpa [Kr] using hB, h⟩
 | o :: l, k, listed, e, S, hl, hun, hsz, hB, h => by
  have h0 : ops[k]? = some o := by simpa using (hl 0).symm
  simp only [List.length_cons, Kr, Bool.and_eq_true] at hB;obtain ⟨⟨hr, hf⟩, hB'⟩ := hB;have hst : xOp P cls ops k (DH P cls ops Q l) e S := by unfold xOp; simp only [h0]; exact h
  obtain ⟨v, S', hy, hK⟩ := Nr h0 hst;have hks : k < ops.size := (Array.getElem?_eq_some_iff.1 h0).1
  refine Qf h0 l.length listed e S S' (fun n j hj => ?_) (TX h0 hf) (by simpa using hr) hy
   (Qd hlate l (k + 1) _ _ _ (fun j => by have := hl (j + 1); simpa [Nat.add_assoc, Nat.add_comm 1 j] using this) (fun j h1 h2 => ?_) (by simpa using hsz) hB' hK)
  ·refine hun j (Zci hlate k n j hj) ?_
   cases n with
   | zero => unfold Cc at hj; have := beq_iff_eq.1 hj; omega
   | succ n =>
    unfold Cc at hj;rw [Bool.or_eq_true] at hj;rcases hj with hj | hj
    ·have := beq_iff_eq.1 hj; omega
    ·cases ho : ops[j]? with
     | none => rw [ho] at hj; cases hj
     | some oj => exact (Array.getElem?_eq_some_iff.1 ho).1
  ·rw [getD_set_ne true (by omega)]
   exact hun j (by omega) h2
theorem RN {ro : Option Nat} {cls : Op → Cls} {ops : Array Oper} {id : Nat} {Q : Af → Ae → Prop} {Q' : Exit → Act → World → Prop} {e : Af} {S : Ae} {a : Act} {w : World} (hm : P.follows .mixedOrders = true) (hB : MA cls ops = true) (hds : Eh N ops = true)
  (hQ : ∀ e S a w, AP N w0 g0 e S a w → Q e S → Q' .normal a w) (hc : AP N w0 g0 e S a w) (h : DH P cls ops Q ops.toList e S) : (Code.region id ops true).wpIn (wR ro) 0 P Q' a w := by
 refine wpIn_region_any hm (IS ro (cls := cls) hds hQ _ _ e S a _ (hc.draw _) ?_)
 simp only [MA, Bool.and_eq_true] at hB;have := Qd (md := .any) hB.1 ops.toList 0 (Array.replicate ops.size false) e S (by simp) (fun j _ hj => by simp [hj]) (by simp) (by simpa using hB.2) h
 simpa using this
end
def EV (P : Program) (pf rf : List FuncId) (N : Nat) : Code → Bool
 | .region _ ops draw => Eh N ops && (!draw || MA (Dq P pf rf) ops)
 | .seq a b => EV P pf rf N a && EV P pf rf N b
 | .cond _ a b => EV P pf rf N a && EV P pf rf N b
 | .block _ b => EV P pf rf N b
 | .loop b => EV P pf rf N b
 | _ => true
section
variable {P : Program} {N N0 : Nat} {w0 : World} {g0 : Gh} {pf rf : List FuncId}
theorem ZfN {ro : Option Nat} (hm : P.follows .mixedOrders = true) (hN0 : g0.nid = N0) : ∀ (c : Code) (Q : AX → Af → Ae → Prop) (e : Af) (S : Ae) (a : Act) (w : World), EV P pf rf N c = true → AP N w0 g0 e S a w → AW P pf rf N0 (C7 c) Q e S → c.wpIn (wR ro) 0 P (Eo N w0 g0 Q) a w := by
 intro c;induction c with
 | skip => intro Q e S a w _ hc h; exact wpIn_skip ⟨e, S, hc, h⟩
 | label l => intro Q e S a w _ hc h; exact wpIn_label ⟨e, S, hc, h⟩
 | ret => intro Q e S a w _ hc h; exact wpIn_ret ⟨e, S, hc, h⟩
 | exit id => intro Q e S a w _ hc h; exact wpIn_exit ⟨e, S, hc, h⟩
 | region id ops draw =>
  intro Q e S a w hok hc h;simp only [EV, Bool.and_eq_true] at hok;simp only [C7, B4, AW] at h;have hL := IR ops.toList e S h;have hQ : ∀ e S a w, AP N w0 g0 e S a w → Q .norm e S → Eo N w0 g0 Q .normal a w := fun e S a w hc hq => ⟨e, S, hc, hq⟩
  cases draw with
  | false => exact N6 hok.1 hQ hc hL ro
  | true => exact RN hm (by simpa using hok.2) hok.1 hQ hc hL
 | seq x y ihx ihy =>
  intro Q e S a w hok hc h;simp only [EV, Bool.and_eq_true] at hok;simp only [C7, B4, AW] at h;refine wpIn_seq (Go.wpIn_mono (ihx _ e S a w hok.1 hc h) ?_)
  intro ex a' w' hq;cases ex with
  | normal => obtain ⟨e', S', hc', h'⟩ := hq; exact ihy Q e' S' a' w' hok.2 hc' h'
  | exit id => exact hq
  | ret => exact hq
  | _ => exact hq.elim
 | cond c x y ihx ihy =>
  intro Q e S a w hok hc h;simp only [EV, Bool.and_eq_true] at hok;simp only [C7, B4, AW] at h;split at h
  ·rename_i b hb
   have hcb : a.eval c = .bool b := by
    obtain ⟨_, _, g, _, h4, _⟩ := hc;have := Jt h4 c;rw [hb] at this;cases hv : a.eval c <;> rw [hv] at this <;> cases this
    rfl
   refine wpIn_cond_split hcb (fun ht => ihx Q e S a w hok.1 hc (h.1 ht)) (fun hf => ihy Q e S a w hok.2 hc (h.2 hf))
  ·exact h.elim
 | block id c ih =>
  intro Q e S a w hok hc h;simp only [C7, B4, AW] at h;refine wpIn_block (Go.wpIn_mono (ih _ e S a w hok hc h) ?_)
  intro ex a' w' hq;cases ex with
  | normal => exact hq
  | exit i =>
   obtain ⟨e', S', hc', h'⟩ := hq;simp only [EA] at h';simp only [Exit.inBlock];by_cases hi : i = id
   ·rw [if_pos hi] at h' ⊢; exact ⟨e', S', hc', h'⟩
   ·rw [if_neg hi] at h' ⊢; exact ⟨e', S', hc', h'⟩
  | ret => exact hq
  | _ => exact hq.elim
 | loop c ih =>
  intro Q e S a w hok hc h;simp only [C7, B4, AW] at h;obtain ⟨I, ⟨n, e', S', hwk, hI⟩, hround⟩ := h;refine Ld (fun n a w => ∃ e S, AP N w0 g0 e S a w ∧ I n e S) n ⟨e', S', hwk N w0 g0 a w hN0 hc, hI⟩ ?_
  rintro n a w ⟨e, S, hc, hI⟩
  refine Go.wpIn_mono (ih _ e S a w hok hc (hround n e S hI)) ?_
  intro ex a' w' hq;cases ex with
  | normal =>
   obtain ⟨e1, S1, hc1, n', e2, S2, hlt, hwk', hI'⟩ := hq;exact ⟨n', hlt, e2, S2, hwk' N w0 g0 a' w' hN0 hc1, hI'⟩
  | exit i => exact hq
  | ret => exact hq
  | _ => exact hq.elim
 | _ => intro Q e S a w _ _ h; exact h.elim
end
section
variable {P : Program}
theorem AC.enter2 {f : FuncId} {fn : Func} {c : Code} {args : List AV} {S S' : Ae} {v : AV} (pf rf : List FuncId) (hf : P.funcs[f]? = some fn) (hb : fn.body = some c) (hname : fn.name ≠ "runtime.NumGoroutine") (hm : P.follows .mixedOrders = true)
  (hn : args.length ≤ fn.ntmps) (hok : EV P pf rf fn.ntmps c = true) (h : AW P pf rf S.length (C7 c) (C6 P fn.results.toList S.length v S') (Ci args) S) : AC P f args S v S' := by
 exact AC.of_wp hf hb hname hn fun w g a hg hc => ZfN hm hg c _ (Ci args) S a w hok hc h
end
end Pe
namespace Pe
open Tryz
open Go Go.RowKit
set_option maxRecDepth 100000
theorem Ai {P : Program} [Tab] {f : FuncId} {fn : Func} {c : Code} {args : List AV} {S S' : Ae} {v : AV} (pf rf : List FuncId) (hf : P.funcs[f]? = some fn) {B : Prop} (h : B) (hb : fn.body = some c := by rfl) (hname : fn.name ≠ "runtime.NumGoroutine" := by decide) (hm : P.follows .mixedOrders = true := by decide) (hn : args.length ≤ fn.ntmps := by exact Nat.le_of_ble_eq_true rfl) (hok : DV P pf rf fn.ntmps c = true := by kernel_rfl) (e : AW P pf rf S.length (C7 c) (C6 P fn.results.toList S.length v S') (Ci args) S = B := by
    conv =>
      lhs
      simp only [C7, B4, DB, List.map_cons, List.map_nil, List.map_toArray, List.getElem?_toArray, List.getElem?_cons_zero, List.getElem?_cons_succ, Option.bind_some, Option.bind_none, List.append_eq, List.cons_append, List.nil_append]) : AC P f args S v S' := AC.enter pf rf hf hb hname hm hn hok (e ▸ h)
theorem As {P : Program} [Tab] {f : FuncId} {fn : Func} {c : Code} {args : List AV} {S S' : Ae} {v : AV} (pf rf : List FuncId) (hf : P.funcs[f]? = some fn) {B : Prop} (h : B) (hb : fn.body = some c := by rfl) (hname : fn.name ≠ "runtime.NumGoroutine" := by decide) (hm : P.follows .mixedOrders = true := by decide) (hn : args.length ≤ fn.ntmps := by exact Nat.le_of_ble_eq_true rfl) (hok : EV P pf rf fn.ntmps c = true := by kernel_rfl) (e : AW P pf rf S.length (C7 c) (C6 P fn.results.toList S.length v S') (Ci args) S = B := by
    conv =>
      lhs
      simp only [C7, B4, DB, List.map_cons, List.map_nil, List.map_toArray, List.getElem?_toArray, List.getElem?_cons_zero, List.getElem?_cons_succ, Option.bind_some, Option.bind_none, List.append_eq, List.cons_append, List.nil_append]) : AC P f args S v S' := AC.enter2 pf rf hf hb hname hm hn hok (e ▸ h)
end Pe
end
section
section
open Go.RowKit Sm
set_option maxRecDepth 100000
theorem Zav {k : IntKind} {a b : Int} (h : a = b) : Ending.returned (.int k a) = .returned (.int k b) := by rw [h]
theorem Lh {k : IntKind} {a b : Int} (h : a = b) : Value.int k a = .int k b := by rw [h]
theorem Li {a b : BitVec 32} (h : a = b) : Ag a = Ag b := by rw [h]
theorem RM {a b : BitVec 32} (h : a = b) : Ending.returned (Ag a) = .returned (Ag b) := by rw [h]
set_option maxHeartbeats 400000 in
theorem Zej (s : ByteArray) (w : World) (hs : s.size ≤ 9223372036854775807) :
  Calls Tryz.prog 192 #[.string s] w fun e w' => e = .returned (Ag (crc s.data.toList)) ∧ w = w' := by
 go_enter Tryz.func192, Tryz.ntmps192
 go_wp2
 go_loop [3, 4, 5, 8, 17] (fun r _ _ i _ => ∃ k : Nat, k ≤ s.size ∧ i = .int .i64 k ∧ r = Ag (G3 (s.data.toList.take k))) (fun _ _ _ i _ => s.size - (intOf i).toNat)
 case atStart => exact ⟨0, Nat.zero_le _, rfl, rfl⟩
 case round =>
  obtain ⟨k, hk, rfl, rfl⟩ := hrel;generalize hr : G3 (s.data.toList.take k) = r0;have Hr := Veil.mk hr; clear hr;by_cases hlt : k < s.size
  ·go_wp2
   go_loop [3, 5, 17] (fun r _ i => ∃ j : Nat, j ≤ 8 ∧ i = .int .i64 j ∧ r = Ag (Jw j (r0 ^^^ bw s[k]))) (fun _ _ i => 8 - (intOf i).toNat)
   case atStart => exact ⟨0, by omega, rfl, rfl⟩
   case round =>
    obtain ⟨j, hj, rfl, rfl⟩ := hrel;by_cases hlt2 : j < 8
    ·go_wp2
     all_goals
      go_round
      case rel => exact ⟨j + 1, by omega, by go_num, Li (by first | exact U8 _ ‹_› | exact U9 _ ‹_›)⟩
      case measure => simp [intOf]; omega
    ·obtain rfl : j = 8 := by omega
     go_wp2
     go_round
     case rel => exact ⟨k + 1, by omega, by go_num, Li (by rw [QI s k hlt, Vj, Hr.out]; rfl)⟩
     case measure => simp [intOf]; omega
  ·have e := JS s k hlt
   have E := Veil.mk e; clear e;go_wp2
   go_ret
   exact ⟨RM (by rw [← Hr.out, E.out, crc]), rfl⟩
def E6 (w : World) (b : Nat) (t : TypeId) (n : Nat) (ws : List (BitVec 32)) : Prop := w.rowIs b t n (fun j => Ag (ws.getD j 0))
theorem Rw {w : World} {b : Nat} {t : TypeId} {n : Nat} {ws : List (BitVec 32)} (h : E6 w b t n ws) (x : BitVec 32) : E6 (w.setCell ⟨b, ws.length, none⟩ (Ag x)) b t n (ws ++ [x]) := by
 refine World.rowIs.congr (World.rowIs.set h ws.length (Ag x)) fun i _ => ?_
 rw [ZcB];split <;> rfl
theorem Rv {w : World} {b : Nat} (n : Nat) (cs : Array Value) (t : TypeId) (hb : b = w.heap.size) (h : cs = (List.replicate n (Value.int .u32 0)).toArray) : E6 (w.alloc (.cells cs t)) b t n [] := by
 subst h hb;have := World.rowIs_alloc w (List.replicate n (Value.int .u32 0)).toArray t (fun _ => Ag 0) (fun i hi => by
  simp at hi
  simp [List.getElem?_replicate, hi]
  rfl)
 simpa [E6] using this
theorem NA (x : BitVec 32) (n : Int) (w : World) (h0 : 0 < n) (h : n < 32) :
  Calls Tryz.prog 189 #[Ag x, .int .i64 n] w fun e w' => e = .returned (Ag (CR x n.toNat)) ∧ w = w' := by
 have e := ZY x n h0 h;have E := Veil.mk e; clear e;go_enter Tryz.func189, Tryz.ntmps189
 go_wp2
 go_ret
 rw [← E.out];exact ⟨rfl, rfl⟩
theorem ZW {w : World} {b : Nat} {t : TypeId} {n : Nat} (h : E6 w b t n []) : E6 w b t n (List.replicate n 0) :=
 World.rowIs.congr h (fun i hi => by simp [List.getElem?_replicate, hi])
theorem Rx {w : World} {b : Nat} {t : TypeId} {n : Nat} {ws : List (BitVec 32)} (h : E6 w b t n ws) (hl : ws.length = n) : w.heap[b]? = some (.cells (ws.map Ag).toArray t (0, 0)) := by
 obtain ⟨cs, hc, hs, he⟩ := h;rw [hc]
 have : cs = (ws.map Ag).toArray := by
  apply Array.ext
  ·simp [hs, hl]
  ·intro i h1 h2
   have := he i (by omega)
   rw [Array.getElem?_eq_getElem h1] at this
   injection this with this
   rw [this];simp at h2
   simp [List.getElem?_eq_getElem h2]
 rw [this]
theorem MD : (Tryz.prog.info? 222).map (·.size) = some 64 := by kernel_rfl
theorem Gf : (Tryz.prog.info? 165).map (·.size) = some 8 := by kernel_rfl
set_option maxRecDepth 100000 in
set_option maxHeartbeats 4000000 in
theorem Zs (s : ByteArray) (w : World) (hs : s.size = 64) :
  Calls Tryz.prog 188 #[.string s] w fun e w' => e = .returned (.agg ((CQ s.data.toList).map Ag).toArray) ∧ Below w.heap.size w w' := by
 have Hs := Veil.mk hs; clear hs;go_enter Tryz.func188, Tryz.ntmps188
 go_wp2
 go_loopw [4, 5, 11] (fun _ _ i wr => ∃ k : Nat, k ≤ 16 ∧ i = .int .i64 k ∧ E6 wr w.heap.size 222 64 [] ∧ E6 wr (w.heap.size + 1) 222 64 (ER s.data.toList k) ∧ Below w.heap.size w wr) (fun _ _ i _ => 16 - (intOf i).toNat)
 case atStart =>
  refine ⟨0, by omega, rfl, World.rowIs.alloc (Rv 64 _ _ rfl rfl) _, ?_, ?_⟩
  ·exact Rv 64 _ _ (by simp) rfl
  ·exact ((Below.refl _ _).alloc (Nat.le_refl _) _).alloc (by simp) _
 case round =>
  obtain ⟨k, hk, rfl, h0, h1, hb⟩ := hrel;by_cases hlt : k < 16
  ·have hs := Hs.out
   have a1 : 4 * k + 4 ≤ s.size := by omega
   clear hs;have H0 := Veil.mk h0; clear h0;have H1 := Veil.mk h1;have c1 := h1.cell (i := k) (by omega)
   have f1 := h1.frozen k;clear h1;go_wp2
   generalize hx : s.extract (4 * k) (4 * k + 4) = x;have ht : 4 ≤ x.size := by subst hx; rw [ByteArray.size_extract]; omega
   have key : ∀ i (h' : i < x.size) (_ : i < 4), x[i] = s.data.toList.getD (4 * k + i) 0 := by
    subst hx; intro i h' h; exact Zdr s _ _ i (by omega) a1 h'
   have Key := Veil.mk key;clear key hx;have i0 : 0 < x.size := by omega
   have i1 : (1 : Int) < x.size := by omega
   have i2 : (2 : Int) < x.size := by omega
   have i3 : (3 : Int) < x.size := by omega
   go_region
   go_wp2
   go_roundw
   case rel =>
    have e := Rw H1.out (JL x[0] x[1] x[2] x[3]);rw [O8] at e;refine ⟨k + 1, by omega, by go_num, World.rowIs.setOther H0.out (by simp) _, ?_, (hb.setCell (by simp) _).drew⟩
    rw [Ud, Lg];rw [Key.out 0 (by omega) (by omega), Key.out 1 (by omega) (by omega), Key.out 2 (by omega) (by omega), Key.out 3 (by omega) (by omega)] at e ⊢
    exact e
   case measure => simp [intOf]; omega
  ·have hk16 : 16 ≤ k := by omega
   clear hlt;go_wp2
   go_loopw [6, 7, 8] (fun i _ _ wr => ∃ m : Nat, 16 ≤ m ∧ m ≤ 64 ∧ i = .int .i64 m ∧ E6 wr w.heap.size 222 64 [] ∧ E6 wr (w.heap.size + 1) 222 64 (BF s.data.toList (m - 16)) ∧ Below w.heap.size w wr) (fun i _ _ _ => 64 - (intOf i).toNat)
   case atStart =>
    obtain rfl : k = 16 := by omega
    exact ⟨16, by omega, by omega, rfl, h0, h1, hb⟩
   case round =>
    obtain ⟨m, hm0, hm, rfl, h0, h1, hb⟩ := hrel;by_cases hlt : m < 64
    ·have H0 := Veil.mk h0; clear h0
     have H1 := Veil.mk h1;have c15 := h1.cell (i := m - 15) (by omega)
     have c2 := h1.cell (i := m - 2) (by omega)
     have c7 := h1.cell (i := m - 7) (by omega)
     have c16 := h1.cell (i := m - 16) (by omega)
     have c0 := h1.cell (i := m) (by omega)
     have f0 := h1.frozen m;clear h1;go_wp2
     go_quiet (fail)
     go_wp2_with (go_at_call 189; refine (NA _ _ _ (by omega) (by omega)).mono ?_; rintro e w' ⟨rfl, rfl⟩)
     go_region
     go_wp2
     go_roundw
     case rel =>
      have e := Rw H1.out (Mt (BF s.data.toList (m - 16)) m);rw [L8, show 16 + (m - 16) = m from by omega] at e
      refine ⟨m + 1, by omega, by omega, by go_num, World.rowIs.setOther H0.out (by simp) _, ?_, (G7 (hb.setCell (by simp) _) _)⟩
      rw [show m + 1 - 16 = m - 16 + 1 from by omega, BF, show 16 + (m - 16) = m from by omega]
      exact e
     case measure => simp [intOf]; omega
    ·have hm64 : 64 ≤ m := by omega
     have e : CQ s.data.toList = BF s.data.toList (m - 16) := by rw [CQ, show m - 16 = 48 from by omega]
     have E := Veil.mk e; clear e;have hl : (BF s.data.toList (m - 16)).length = 64 := by rw [L8]; omega
     generalize hws : BF s.data.toList (m - 16) = ws at h1 hl;have Ews := Veil.mk hws; clear hws hlt;have hr0 := Rx (ZW h0) (by simp)
     have hr1 := Rx h1 hl;have Hr1 := Veil.mk hr1;have Hr0 := Veil.mk hr0;have Hl := Veil.mk hl;clear h0 h1 hr0 hr1 hl;have Hc : Veil (∀ j u, (ws.map Ag)[j]? = some u → (ws.map Ag).toArray[0 + j]? = some u) := ⟨fun j u hu => by simpa using hu⟩
     have Hf : Veil ((ws.map Ag).length = (List.map Ag (List.replicate 64 0)).toArray.size) := ⟨by simp [Hl.out]⟩
     have Ho : Veil (∀ u ∈ ws.map Ag, u.oneCell' = true) := ⟨Oi _⟩
     have Hi : Veil (some 64 = some (ws.map Ag).length) := ⟨by rw [List.length_map, Hl.out]⟩
     go_wp2_with (first
      | (refine Tj rfl _ (.tmp 3) rfl (w.heap.size + 1) 0 rfl Hr1.out Tryz.underlying222 rfl (ws.map Ag) (MD.trans Hi.out) Hc.out ?_)
      | (refine JU rfl _ (.tmp 2) (.tmp 85) rfl w.heap.size rfl (ws.map Ag) rfl Hr0.out (MD.trans Hi.out) Hf.out Ho.out ?_))
     refine bodyPost_ret (results_cell_row rfl _ _ w.heap.size _ _ _ _ rfl (setRow_heap wr w.heap.size _ _ _ _ Hr0.out) Tryz.underlying222 rfl (MD.trans (by rw [Hi.out]; simp))) rfl ?_
     exact ⟨by rw [E.out, Ews.out], M5 hb (Nat.le_refl _) _⟩
def C2 (w : World) : Prop := (∀ i, i < 64 → w.cell? ⟨1, i, none⟩ = some (Ag (Ed.getD i 0))) ∧ (∀ i, i < 8 → w.cell? ⟨0, i, none⟩ = some (Ag (BA.list.getD i 0)))
theorem C2.keep {w w' : World} (h : C2 w) (hk : ∀ b, b < w.heap.size → w'.heap[b]? = w.heap[b]?) : C2 w' := by
 refine ⟨fun i hi => ?_, fun i hi => ?_⟩
 ·rw [World.cell?_of_block (hk _ (World.block_lt_of_cell? w _ (h.1 i hi)))]
  exact h.1 i hi
 ·rw [World.cell?_of_block (hk _ (World.block_lt_of_cell? w _ (h.2 i hi)))]
  exact h.2 i hi
theorem C2.below {w w' : World} (h : C2 w) {B : Nat} (hb : Below B w w') (hB : w.heap.size ≤ B) : C2 w' := h.keep fun b hlt => hb.block b (by omega)
theorem C2.drew {w : World} (h : C2 w) : C2 w.drew := h
theorem C2.alloc {w : World} (h : C2 w) (o : Obj) : C2 (w.alloc o) := h.keep fun b hb => heap_alloc_old w o hb
set_option maxRecDepth 100000 in
set_option maxHeartbeats 4000000 in
theorem S4 (st : S8) (s : ByteArray) (w : World) (hs : s.size = 64) (hT : C2 w) :
  Calls Tryz.prog 124 #[.agg st.cells.toArray, .string s] w fun e w' => e = .returned (.agg (Fb st s.data.toList).cells.toArray) ∧ Below w.heap.size w w' := by
 have Hs := Veil.mk hs; clear hs;have HT := Veil.mk hT; clear hT;obtain ⟨va, vb, vc, vd, ve, vf, vg, vh⟩ := st;simp only [S8.cells];go_enter Tryz.func124, Tryz.ntmps124
 go_wp2_with (first
  | (go_at_call 188; refine (Zs s _ Hs.out).mono ?_; rintro e w1 ⟨rfl, hb1⟩)
  | (refine QV _ rfl _ (.tmp 5) (.tmp 18) rfl rfl ((CQ s.data.toList).map Ag) rfl ?_ ?_ (Oi _) ?_))
 ·exact MD.trans (by rw [List.length_map, I3])
 ·rw [List.length_map, I3]; rfl
 have hbs : Below w.heap.size w w1 := (((Below.refl _ _).alloc (Nat.le_refl _) _).alloc (by simp) _).trans (hb1.mono (by simp; omega))
 have hsz : w.heap.size + 2 ≤ w1.heap.size := by have := hb1.size; simp at this; omega
 have g0 : w1.heap[w.heap.size]? = some (.cells #[Ag va, Ag vb, Ag vc, Ag vd, Ag ve, Ag vf, Ag vg, Ag vh] 165 (0, 0)) :=
  (hb1.block _ (by simp; omega)).trans (heap_alloc2_old w _ _)
 have g1 : w1.heap[w.heap.size + 1]? = some (.cells #[.int .u32 0, .int .u32 0, .int .u32 0, .int .u32 0, .int .u32 0, .int .u32 0, .int .u32 0, .int .u32 0] 165 (0, 0)) :=
  (hb1.block _ (by simp)).trans (heap_alloc2_new w _ _)
 have hT1 : C2 w1 := HT.out.below hbs (Nat.le_refl _);clear hb1;have k0 : (w1.alloc (.cells ((CQ s.data.toList).map Ag).toArray 222)).heap[w.heap.size]? = _ := (heap_alloc_old w1 _ (by omega)).trans g0
 have k1 : (w1.alloc (.cells ((CQ s.data.toList).map Ag).toArray 222)).heap[w.heap.size + 1]? = _ := (heap_alloc_old w1 _ (by omega)).trans g1
 have k2 := heap_alloc_new w1 (.cells ((CQ s.data.toList).map Ag).toArray 222);have kT := hT1.alloc (.cells ((CQ s.data.toList).map Ag).toArray 222);have kb := hbs.alloc hbs.size (.cells ((CQ s.data.toList).map Ag).toArray 222);clear g0 g1 hT1 hbs;generalize w1.alloc (.cells ((CQ s.data.toList).map Ag).toArray 222) = w2 at k0 k1 k2 kT kb ⊢;generalize hW : w1.heap.size = bw at k2 hsz ⊢;clear hW;have x0 := cell_of_row w2 w.heap.size 0 _ _ _ k0;have x1 := cell_of_row w2 w.heap.size 1 _ _ _ k0;have x2 := cell_of_row w2 w.heap.size 2 _ _ _ k0;have x3 := cell_of_row w2 w.heap.size 3 _ _ _ k0;have x4 := cell_of_row w2 w.heap.size 4 _ _ _ k0;have x5 := cell_of_row w2 w.heap.size 5 _ _ _ k0;have x6 := cell_of_row w2 w.heap.size 6 _ _ _ k0;have x7 := cell_of_row w2 w.heap.size 7 _ _ _ k0;have K0 := Veil.mk k0;have K1 := Veil.mk k1;have K2 := Veil.mk k2;have KT := Veil.mk kT;have Kb := Veil.mk kb;clear k0 k1 k2 kT kb;go_wp2
 go_quiet (fail)
 go_wp2
 go_quiet (fail)
 clear x0 x1 x2 x3 x4 x5 x6 x7;go_wp2
 go_loopw [6, 7, 8, 9, 10, 11, 12, 13, 14, 15, 16, 35] (fun a b c d e f g h _ _ _ i wr => ∃ n r : Nat, n ≤ 64 ∧ i = .int .i64 n ∧ wr = w2.drewN r ∧ ∃ st : S8, st = H7 s.data.toList ⟨va, vb, vc, vd, ve, vf, vg, vh⟩ n ∧ a = Ag st.a ∧ b = Ag st.b ∧ c = Ag st.c ∧ d = Ag st.d ∧ e = Ag st.e ∧ f = Ag st.f ∧ g = Ag st.g ∧ h = Ag st.h) (fun _ _ _ _ _ _ _ _ _ _ _ i _ => 64 - (intOf i).toNat)
 case atStart => exact ⟨0, _, by omega, rfl, World.drewN_drewN _ _ _, _, rfl, rfl, rfl, rfl, rfl, rfl, rfl, rfl, rfl⟩
 case round =>
  obtain ⟨n, r, hn, rfl, rfl, ⟨sa, sb, sc, sd, se, sf, sg, sh⟩, hst, rfl, rfl, rfl, rfl, rfl, rfl, rfl, rfl⟩ := hrel;have Hst := Veil.mk hst; clear hst;by_cases hlt : n < 64
  ·have cK : (w2.drewN r).cell? ⟨1, n, none⟩ = some (Ag (Ed.getD n 0)) := KT.out.1 n hlt
   have cW : (w2.drewN r).cell? ⟨bw, n, none⟩ = some (Ag ((CQ s.data.toList).getD n 0)) := by
    show w2.cell? _ = _
    rw [cell_of_row w2 bw n _ _ _ K2.out];simp [List.getD_eq_getElem?_getD, List.getElem?_eq_getElem (show n < (CQ s.data.toList).length from by rw [I3]; exact hlt)]
   generalize hk : Ed.getD n 0 = kn at cK;generalize hx : (CQ s.data.toList).getD n 0 = xn at cW;have Hk := Veil.mk hk; clear hk;have Hx := Veil.mk hx; clear hx;generalize hwr : w2.drewN r = wr at cK cW ⊢;have Hwr := Veil.mk hwr; clear hwr;go_wp2
   go_quiet ((go_at_call 189; exact Calls.quiet_of_same ((NA _ _ _ (by omega) (by omega)).mono fun _ _ h => ⟨h.1, h.2.symm⟩)))
   go_wp2_with (go_at_call 189; refine (NA _ _ _ (by omega) (by omega)).mono ?_; rintro e w' ⟨rfl, rfl⟩)
   go_roundw
   case rel =>
    refine ⟨n + 1, _, by omega, by go_num, by rw [← Hwr.out]; exact World.drewN_drewN _ _ _, I9 kn xn ⟨sa, sb, sc, sd, se, sf, sg, sh⟩, ?_, ?_⟩
    ·rw [H7, ← Hst.out, Hk.out, Hx.out]
    ·exact ⟨rfl, rfl, rfl, rfl, rfl, rfl, rfl, rfl⟩
   case measure => simp [intOf]; omega
  ·have hn64 : 64 ≤ n := by omega
   have hm : Fb ⟨va, vb, vc, vd, ve, vf, vg, vh⟩ s.data.toList = S8.add ⟨va, vb, vc, vd, ve, vf, vg, vh⟩ ⟨sa, sb, sc, sd, se, sf, sg, sh⟩ := by
    obtain rfl : n = 64 := by omega
    rw [Fb, ← Hst.out]
   have Hm := Veil.mk hm; clear hm hlt;have k0 : (w2.drewN r).heap[w.heap.size]? = _ := K0.out;have k1 : (w2.drewN r).heap[w.heap.size + 1]? = _ := K1.out;have kb := G7 Kb.out r;generalize w2.drewN r = wr at k0 k1 kb ⊢;have x0 := cell_of_row wr w.heap.size 0 _ _ _ k0;have x1 := cell_of_row wr w.heap.size 1 _ _ _ k0;have x2 := cell_of_row wr w.heap.size 2 _ _ _ k0;have x3 := cell_of_row wr w.heap.size 3 _ _ _ k0;have x4 := cell_of_row wr w.heap.size 4 _ _ _ k0;have x5 := cell_of_row wr w.heap.size 5 _ _ _ k0;have x6 := cell_of_row wr w.heap.size 6 _ _ _ k0;have x7 := cell_of_row wr w.heap.size 7 _ _ _ k0;have K1 := Veil.mk k1;have Kb := Veil.mk kb;clear k0 k1 kb;have Hi : Veil (some 8 = some [Ag (va + sa), Ag (vb + sb), Ag (vc + sc), Ag (vd + sd), Ag (ve + se), Ag (vf + sf), Ag (vg + sg), Ag (vh + sh)].length) := ⟨rfl⟩;go_wp2_with (refine JU rfl _ (.tmp 4) (.tmp 130) rfl (w.heap.size + 1) rfl [Ag (va + sa), Ag (vb + sb), Ag (vc + sc), Ag (vd + sd), Ag (ve + se), Ag (vf + sf), Ag (vg + sg), Ag (vh + sh)] rfl K1.out (Gf.trans Hi.out) rfl (by simp [Value.oneCell', Ag]) ?_)
   refine bodyPost_ret (results_cell_row rfl _ _ (w.heap.size + 1) _ _ _ _ rfl (setRow_heap wr (w.heap.size + 1) _ _ _ _ K1.out) Tryz.underlying165 rfl (Gf.trans Hi.out)) rfl ?_
   exact ⟨by rw [Hm.out]; rfl, M5 Kb.out (by omega) _⟩
theorem FO : DY Tryz.prog 86 5 1 1 := DY.mk' (z := .int .u8 0) Tryz.underlying86 (by kernel_rfl) rfl (by omega)
def lenOf : Value → Nat | .slice _ n _ => n | _ => 0
set_option maxHeartbeats 1000000 in
theorem ZdF (s : ByteArray) (n : Int) (w : World) (hs : s.size ≤ 64) :
  Calls Tryz.prog 125 #[.string s, .int .i64 n] w fun e w' => e = .returned (.string ⟨(ending s.data.toList n).toArray⟩) ∧ Below w.heap.size w w' := by
 have hm : s.size ≤ maxLen := by unfold maxLen; omega
 go_enter Tryz.func125, Tryz.ntmps125
 go_wp2_with (first
  | (refine VH w rfl _ _ (.tmp 8) rfl 5 s rfl Tryz.underlying9 Tryz.underlying86 Tryz.underlying5 hm (base := w.heap.size) (Nat.le_refl _) ?_; intro v0 w0 own0 gr0 hx; clear hx)
  | (at_builtin; refine G8 w0 rfl _ _ _ rfl FO [.int .u8 128] own0 rfl rfl ?_ ?_ ?_ ?_ ?_))
 ·exact F6 rfl
 ·simp; omega
 ·simp; omega
 ·exact gr0.size
 intro v1 w1 own1 gr1;have hb1 : Below w.heap.size w w1 := FR ((Below.refl _ _).grown gr0 (Nat.le_refl _) (fun k hk => by cases hk)) gr1 own0 (Nat.le_refl _) gr0.size
 have own1' : Ao w1 w.heap.size 5 1 v1 ((CA s.data.toList 0).map w8) := by
  rw [show ((CA s.data.toList 0).map w8) = s.data.toList.map w8 ++ [.int .u8 128] from by simp [CA]; rfl]
  exact own1
 clear own0 gr0 gr1 own1;have hl : s.data.toList.length = s.size := by simp
 generalize hs0 : s.data.toList = l at own1' hl ⊢;have Hl := Veil.mk hl;have Hs0 := Veil.mk hs0;clear hl hs0;go_wp2
 go_loopw [5] (fun v wr => ∃ (N z : Nat) (A : Option Addr) (c : Nat), v = .slice A N c ∧ Veil (N = l.length + 1 + z) ∧ z ≤ Bx (l.length + 1) ∧ Ao wr w.heap.size 5 1 (.slice A N c) ((CA l z).map w8) ∧ Below w.heap.size w wr) (fun v _ => l.length + 1 + Bx (l.length + 1) - lenOf v)
 case atStart =>
  obtain ⟨A, c, rfl⟩ := own1'.len1;exact ⟨_, 0, A, c, rfl, ⟨by rw [List.length_map, ET]⟩, Nat.zero_le _, own1', hb1⟩
 case round =>
  obtain ⟨N, z, A, c, rfl, HN, hz, hown, hb⟩ := hrel;have hzl := Np (l.length + 1);have hNs : N ≤ 200 := by have := HN.out; have := Hl.out; omega
  have hmod : ((N : Int) % 64 != 56) = decide (z < Bx (l.length + 1)) := by
   have h1 := Nq (l.length + 1);have h2 := PX (l.length + 1) z;rw [HN.out];by_cases hlt : z < Bx (l.length + 1)
   ·have := h2 hlt
    simp only [hlt, decide_true, bne_iff_ne];omega
   ·obtain rfl : z = Bx (l.length + 1) := by omega
    simp only [hlt, decide_false, bne_eq_false_iff_eq];omega
  have hle := hb.size;by_cases hlt : z < Bx (l.length + 1)
  ·have ht : ((N : Int) % 64 != 56) = true := by rw [hmod]; simpa using hlt
   clear hmod;go_wp2_with (at_builtin; refine G8 wr rfl _ _ _ rfl FO [.int .u8 0] hown rfl rfl ?_ ?_ ?_ hle ?_; rotate_left 3; intro v' w' own' gr')
   rotate_left 1
   ·exact F6 rfl
   ·rw [List.length_map, ET, ← HN.out]; simp; omega
   ·rw [List.length_map, ET, ← HN.out]; simp; omega
   have hb' := FR hb gr' hown (Nat.le_refl _) hle;have own2 : Ao w' w.heap.size 5 1 v' ((CA l (z + 1)).map w8) := by rw [UB, List.map_append]; exact own'
   clear own' gr' hown hb;go_wp2
   go_roundw
   obtain ⟨A', c', rfl⟩ := own2.len1;case rel => exact ⟨_, z + 1, A', c', rfl, ⟨by rw [List.length_map, ET]⟩, by omega, own2, hb'⟩
   case measure =>
    obtain ⟨A', c', rfl⟩ := own2.len1;simp only [lenOf, List.length_map, ET];have := HN.out;omega
  ·have ht : ((N : Int) % 64 != 56) = false := by rw [hmod]; simpa using hlt
   obtain rfl : z = Bx (l.length + 1) := by omega
   clear hmod;go_wp2
   go_loopw [5, 7] (fun v i wr => ∃ (M j : Nat) (A : Option Addr) (c : Nat), v = .slice A M c ∧ j ≤ 8 ∧ i = .int .i64 (56 - 8 * (j : Int)) ∧ Ao wr w.heap.size 5 1 (.slice A M c) ((CA l (Bx (l.length + 1)) ++ Eb (BitVec.ofInt 64 n * 8#64) j).map w8) ∧ Below w.heap.size w wr) (fun _ i _ => (intOf i + 8).toNat)
   case atStart => exact ⟨N, 0, A, c, rfl, by omega, rfl, by simpa [Eb] using hown, hb⟩
   case round =>
    obtain ⟨M, j, A', c', rfl, hj, rfl, hown, hb⟩ := hrel;have hle := hb.size;have hlen : (CA l (Bx (l.length + 1)) ++ Eb (BitVec.ofInt 64 n * 8#64) j).length ≤ 200 := by
     rw [List.length_append, ET]
     have : (Eb (BitVec.ofInt 64 n * 8#64) j).length ≤ 8 := by simp [Eb, KV]; omega
     have := Hl.out;omega
    by_cases hlt : j < 8
    ·have hge : (0 : Int) ≤ 56 - 8 * (j : Int) := by omega
     go_wp2_with (at_builtin; refine G8 wr rfl _ _ _ rfl FO [_] hown rfl rfl ?_ ?_ ?_ hle ?_; rotate_left 3; intro v' w' own' gr')
     rotate_left 1
     ·exact F6 rfl
     ·rw [List.length_map]; simp only [List.length_singleton]; omega
     ·rw [List.length_map]; simp only [List.length_singleton]; omega
     have hb' := FR hb gr' hown (Nat.le_refl _) hle;have own2 : Ao w' w.heap.size 5 1 v' ((CA l (Bx (l.length + 1)) ++ Eb (BitVec.ofInt 64 n * 8#64) (j + 1)).map w8) := by
      rw [Wc _ _ hlt, ← List.append_assoc, List.map_append]; exact own'
     clear own' gr' hown hb;obtain ⟨A2, c2, rfl⟩ := own2.len1;go_wp2
     go_roundw
     case rel => exact ⟨_, j + 1, A2, c2, rfl, by omega, by go_num, own2, hb'⟩
     case measure => simp [intOf]; omega
    ·obtain rfl : j = 8 := by omega
     have hc := LX (P := Tryz.prog) wr 86 9 5 Tryz.underlying86 Tryz.underlying5 Tryz.underlying9 hown.rd;go_wp2
     go_ret
     exact ⟨by rw [Hs0.out]; rfl, hb⟩
theorem Zcx (st : S8) (j : Nat) (hj : j < 8) : ∀ W : World, (Instr.index 165 (.agg st.cells.toArray) (.int .i64 (j : Int))).run Tryz.prog W = .ok (Ag (st.list.getD j 0)) W := by
 intro W;rcases j with _ | _ | _ | _ | _ | _ | _ | _ | j
 all_goals first | omega | kernel_rfl
theorem Tq {w w1 : World} {g : Nat} {o : Obj} (hb : Below w.drew.heap.size w.drew w1) (hlt : g < w.heap.size) (h : w.heap[g]? = some o) : w1.heap[g]? = some o := (hb.block g hlt).trans h
set_option maxRecDepth 100000 in
set_option maxHeartbeats 400000 in
theorem Zn (s : ByteArray) (w : World) (hs : s.size ≤ 9223372036854775807) (hT : C2 w) :
  Calls Tryz.prog 66 #[.string s] w fun e w' => e = .returned (.string ⟨(sha s.data.toList).toArray⟩) ∧ Below w.heap.size w w' := by
 have HT := Veil.mk hT;have HI : Veil (∀ j u, BA.cells[j]? = some u → w.cell? ⟨0, 0 + j, none⟩ = some u) := ⟨fun j u hu => by
  rw [Nat.zero_add];have hj : j < 8 := (List.getElem?_eq_some_iff.1 hu).1
  rw [hT.2 j hj];rw [← hu];rcases j with _ | _ | _ | _ | _ | _ | _ | _ | j
  all_goals first | omega | rfl⟩
 clear hT;have Hc8 : Veil (∀ (st : S8) j u, st.cells[j]? = some u → st.cells.toArray[0 + j]? = some u) := ⟨fun st j u hu => by simpa using hu⟩
 have Ho8 : Veil (∀ (st : S8), ∀ u ∈ st.cells, u.oneCell' = true) := ⟨fun st u hu => by
  simp only [S8.cells, List.mem_cons, List.not_mem_nil, or_false] at hu;rcases hu with rfl | rfl | rfl | rfl | rfl | rfl | rfl | rfl <;> rfl⟩
 go_enter Tryz.func66, Tryz.ntmps66
 go_wp2_with (first
  | (refine Zch rfl _ (.global 0) rfl 0 0 rfl Tryz.underlying165 rfl BA.cells Gf HI.out ?_)
  | (refine QV _ rfl _ (.tmp 3) (.tmp 8) rfl rfl BA.cells rfl Gf rfl (Ho8.out _) ?_))
 have k0 := heap_alloc_new w (.cells BA.cells.toArray 165);have b0 := (Below.refl w.heap.size w).alloc (Nat.le_refl _) (.cells BA.cells.toArray 165);generalize w.alloc (.cells BA.cells.toArray 165) = w2 at k0 b0 ⊢;go_loopw [4] (fun r wr => ∃ (n : Nat) (x : ByteArray), r = .string x ∧ x.size ≤ 9223372036854775807 ∧ Veil (x.data.toList = s.data.toList.drop (64 * n)) ∧ 64 * n ≤ s.size ∧ wr.heap[w.heap.size]? = some (.cells (Bq s.data.toList BA n).cells.toArray 165 (0, 0)) ∧ Below w.heap.size w wr) (fun r _ => match r with | .string x => x.size | _ => 0)
 case atStart => exact ⟨0, s, rfl, hs, ⟨by simp⟩, by omega, k0, b0⟩
 case round =>
  obtain ⟨n, x, rfl, hx, Hx, hn, k, hb⟩ := hrel;have hxl : x.size = s.size - 64 * n := by have := congrArg List.length Hx.out; simpa using this
  have Hxl := Veil.mk hxl; clear hxl;have HTr := Veil.mk (HT.out.below hb (Nat.le_refl _));have K := Veil.mk k; clear k;have Hb := Veil.mk hb; clear hb;by_cases hlt : 64 ≤ x.size
  ·go_wp2
   have hgl := (Array.getElem?_eq_some_iff.1 K.out).1
   refine wp_region_still_tail 3 (by kernel_rfl) (by kernel_rfl) ?_
   simp only [List.take_succ_cons, List.take_zero, List.drop_succ_cons, List.drop_zero];refine QT rfl _ (.tmp 3) rfl w.heap.size 0 rfl K.out Tryz.underlying165 rfl (Bq s.data.toList BA n).cells (Gf.trans (congrArg some (Ix _).symm)) (Hc8.out _) ?_
   repeat still_step
   refine wpStill_nil ?_
   change wpList _ _ _ _ _ wr.drew;go_wp2_with (first
    | (go_at_call 124; refine (S4 (Bq s.data.toList BA n) _ _ (Q3 x hlt) HTr.out.drew).mono ?_; rintro e w1 ⟨rfl, hb1⟩; generalize hs2 : Fb (Bq s.data.toList BA n) (x.extract 0 64).data.toList = st2; have Hs2 := Veil.mk hs2; clear hs2; have hk1 := Veil.mk (Tq hb1 hgl K.out); have Hb1 := Veil.mk hb1; clear hb1)
    | (refine JU rfl _ (.tmp 3) (.tmp 16) rfl w.heap.size rfl st2.cells rfl hk1.out (Gf.trans (congrArg some (Ix st2).symm)) (Vu st2 _) (Ho8.out _) ?_))
   have hk := Veil.mk (setRow_heap w1 w.heap.size _ st2.cells.toArray _ _ hk1.out);have hbe := Veil.mk (M5 (Hb.out.drew.trans (Hb1.out.mono Hb.out.size)) (Nat.le_refl _) st2.cells.toArray);generalize w1.setRow w.heap.size st2.cells.toArray = w3 at hk hbe ⊢;go_roundw
   case rel =>
    have hx64 := UU x x.size (Nat.le_refl _);refine ⟨n + 1, _, rfl, ?_, ⟨?_⟩, ?_, ?_, hbe.out⟩
    ·rw [ByteArray.size_extract]; omega
    ·rw [hx64, Hx.out, List.drop_drop]; congr 1
    ·have := Hxl.out; omega
    ·rw [Bq]
     rw [← Hx.out, ← QL, Hs2.out];exact hk.out
   case measure => simp only [ByteArray.size_extract]; omega
  ·have hnq : s.size / 64 = n := by have := Hxl.out; omega
   have Hnq := Veil.mk hnq; clear hnq;generalize hst : Bq s.data.toList BA n = st1;have Hst := Veil.mk hst; clear hst;go_wp2_with (go_at_call 125; refine (ZdF x _ _ (by omega)).mono ?_; rintro e w1 ⟨rfl, hb1⟩)
   have hblk := UA x.data.toList s.size;have htl := Pf x.data.toList s.size;generalize hT : Sm.ending x.data.toList s.size = T at hblk htl ⊢;have HTl := Veil.mk hT; clear hT;have hk1 := Veil.mk ((hb1.block _ ((Array.getElem?_eq_some_iff.1 K.out).1)).trans K.out)
   have hb1' := Veil.mk (Hb.out.trans (hb1.mono Hb.out.size));have hTs : T.length ≤ 300 := by
    have := Np (x.data.toList.length + 1)
    have : x.data.toList.length = x.size := by simp
    omega
   clear hb1 htl;have Hblk := Veil.mk hblk; clear hblk;go_loopw [4] (fun r wr => ∃ (n : Nat) (x : ByteArray), r = .string x ∧ x.size ≤ 300 ∧ Veil (x.data.toList = T.drop (64 * n)) ∧ 64 * n ≤ T.length ∧ Veil (wr.heap[w.heap.size]? = some (.cells (Bq T st1 n).cells.toArray 165 (0, 0))) ∧ Veil (Below w.heap.size w wr)) (fun r _ => match r with | .string x => x.size | _ => 0)
   case atStart => exact ⟨0, _, rfl, by simpa [ByteArray.size] using hTs, ⟨by simp⟩, by omega, ⟨by rw [Bq, ← Hst.out]; exact hk1.out⟩, hb1'⟩
   case round =>
    obtain ⟨m, y, rfl, hy, Hy, hm, K, Hb⟩ := hrel;have hyl : y.size = T.length - 64 * m := by have := congrArg List.length Hy.out; simpa using this
    have Hyl := Veil.mk hyl; clear hyl;have HTr := Veil.mk (HT.out.below Hb.out (Nat.le_refl _));by_cases hlt : 0 < y.size
    ·have h64 : 64 ≤ y.size := by have := Hyl.out; have := Hblk.out; omega
     have hem := ZbT hlt;have h64i : (64 : Int) ≤ y.size := by omega
     have hgl := (Array.getElem?_eq_some_iff.1 K.out).1
     go_wp2
     refine wp_region_still_tail 3 (by kernel_rfl) (by kernel_rfl) ?_
     simp only [List.take_succ_cons, List.take_zero, List.drop_succ_cons, List.drop_zero];refine QT rfl _ (.tmp 3) rfl w.heap.size 0 rfl K.out Tryz.underlying165 rfl (Bq T st1 m).cells (Gf.trans (congrArg some (Ix _).symm)) (Hc8.out _) ?_
     repeat still_step
     refine wpStill_nil ?_
     change wpList _ _ _ _ _ wr.drew;go_wp2_with (first
      | (go_at_call 124; refine (S4 (Bq T st1 m) _ _ (Q3 y h64) HTr.out.drew).mono ?_; rintro e w1 ⟨rfl, hb1⟩; generalize hs2 : Fb (Bq T st1 m) (y.extract 0 64).data.toList = st2; have Hs2 := Veil.mk hs2; clear hs2; have hk1 := Veil.mk (Tq hb1 hgl K.out); have Hb1 := Veil.mk hb1; clear hb1)
      | (refine JU rfl _ (.tmp 3) (.tmp 30) rfl w.heap.size rfl st2.cells rfl hk1.out (Gf.trans (congrArg some (Ix st2).symm)) (Vu st2 _) (Ho8.out _) ?_))
     have hk := Veil.mk (setRow_heap w1 w.heap.size _ st2.cells.toArray _ _ hk1.out);have hbe := Veil.mk (M5 (Hb.out.drew.trans (Hb1.out.mono Hb.out.size)) (Nat.le_refl _) st2.cells.toArray);generalize w1.setRow w.heap.size st2.cells.toArray = w3 at hk hbe ⊢;go_roundw
     case rel =>
      have hx64 := UU y y.size (Nat.le_refl _);refine ⟨m + 1, _, rfl, ?_, ⟨?_⟩, ?_, ⟨?_⟩, hbe⟩
      ·rw [ByteArray.size_extract]; omega
      ·rw [hx64, Hy.out, List.drop_drop]; congr 1
      ·have := Hyl.out; omega
      ·rw [Bq]
       rw [← Hy.out, ← QL, Hs2.out];exact hk.out
     case measure => simp only [ByteArray.size_extract]; omega
    ·have hem := ZdG hlt
     have hmq : T.length / 64 = m := by have := Hyl.out; omega
     have hfin : I2 s.data.toList = Bq T st1 m := by
      have hsl : s.data.toList.length = s.size := by simp
      rw [I2, hsl, Hnq.out, Hst.out, ← hmq, ← HTl.out, Hx.out]
     have Hfin := Veil.mk hfin; clear hfin hmq;have hgl := (Array.getElem?_eq_some_iff.1 K.out).1
     generalize hst : Bq T st1 m = st at K Hfin;clear hst;have H32 : Veil ((32 : Nat) ≤ maxLen) := ⟨by unfold maxLen; omega⟩
     have hmk : ∀ W : World, (Instr.makeSlice 86 (.int .i64 0) (.int .i64 32)).run Tryz.prog W = .ok (.slice (some ⟨W.heap.size, 0, none⟩) 0 32) (W.alloc (.cells #[.int .u8 0, .int .u8 0, .int .u8 0, .int .u8 0, .int .u8 0, .int .u8 0, .int .u8 0, .int .u8 0, .int .u8 0, .int .u8 0, .int .u8 0, .int .u8 0, .int .u8 0, .int .u8 0, .int .u8 0, .int .u8 0, .int .u8 0, .int .u8 0, .int .u8 0, .int .u8 0, .int .u8 0, .int .u8 0, .int .u8 0, .int .u8 0, .int .u8 0, .int .u8 0, .int .u8 0, .int .u8 0, .int .u8 0, .int .u8 0, .int .u8 0, .int .u8 0] 5)) := fun _ => by kernel_rfl
     go_wp2_with (refine Tj rfl _ (.tmp 3) rfl w.heap.size 0 rfl ((heap_alloc_old _ _ hgl).trans K.out) Tryz.underlying165 rfl st.cells (Gf.trans (congrArg some (Ix _).symm)) (Hc8.out _) ?_)
     have own0 : Ao (wr.alloc (.cells #[.int .u8 0, .int .u8 0, .int .u8 0, .int .u8 0, .int .u8 0, .int .u8 0, .int .u8 0, .int .u8 0, .int .u8 0, .int .u8 0, .int .u8 0, .int .u8 0, .int .u8 0, .int .u8 0, .int .u8 0, .int .u8 0, .int .u8 0, .int .u8 0, .int .u8 0, .int .u8 0, .int .u8 0, .int .u8 0, .int .u8 0, .int .u8 0, .int .u8 0, .int .u8 0, .int .u8 0, .int .u8 0, .int .u8 0, .int .u8 0, .int .u8 0, .int .u8 0] 5)) w.heap.size 5 1 (.slice (some ⟨wr.heap.size, 0, none⟩) 0 32) [] := Ao.made Hb.out.size H32.out rfl;have hb3 := Hb.out.alloc Hb.out.size (.cells #[.int .u8 0, .int .u8 0, .int .u8 0, .int .u8 0, .int .u8 0, .int .u8 0, .int .u8 0, .int .u8 0, .int .u8 0, .int .u8 0, .int .u8 0, .int .u8 0, .int .u8 0, .int .u8 0, .int .u8 0, .int .u8 0, .int .u8 0, .int .u8 0, .int .u8 0, .int .u8 0, .int .u8 0, .int .u8 0, .int .u8 0, .int .u8 0, .int .u8 0, .int .u8 0, .int .u8 0, .int .u8 0, .int .u8 0, .int .u8 0, .int .u8 0, .int .u8 0] 5);go_loopw [5, 7, 33] (fun v _ i wx => ∃ j : Nat, j ≤ 8 ∧ i = .int .i64 j ∧ Ao wx w.heap.size 5 1 v (((st.list.take j).flatMap EW).map w8) ∧ Below w.heap.size w wx) (fun _ _ i _ => 8 - (intOf i).toNat)
     case atStart => exact ⟨0, by omega, rfl, own0, hb3⟩
     case round =>
      obtain ⟨j, hj, rfl, hown, hbx⟩ := hrel;have hle := hbx.size;by_cases hlt : j < 8
      ·have hi := Zcx st j hlt
       have hlen : ((st.list.take j).flatMap EW).length ≤ 32 := by
        rcases j with _ | _ | _ | _ | _ | _ | _ | _ | j
        all_goals first | (simp [S8.list, EW]; done) | omega
       generalize hxj : st.list.getD j 0 = xj at hi;have Hxj := Veil.mk hxj; clear hxj;have Hlen := Veil.mk hlen; clear hlen;go_wp2_with (at_builtin; refine G8 wr rfl _ _ _ rfl FO [_, _, _, _] hown rfl rfl ?_ ?_ ?_ hle ?_; rotate_left 3; intro v' w' own' gr')
       rotate_left 1
       ·exact Mn (EW xj)
       ·rw [List.length_map]; have := Hlen.out; simp only [List.length_cons, List.length_nil]; omega
       ·rw [List.length_map]; have := Hlen.out; simp only [List.length_cons, List.length_nil]; omega
       have own2 : Ao w' w.heap.size 5 1 v' (((st.list.take (j + 1)).flatMap EW).map w8) := by
        rw [Zd7 _ _ hlt, List.map_append, Hxj.out]; exact own'
       have hb' := FR hbx gr' hown (Nat.le_refl _) hle;clear own' gr' hown hbx;go_wp2
       go_roundw
       case rel => exact ⟨j + 1, by omega, by go_num, own2, hb'⟩
       case measure => simp [intOf]; omega
      ·obtain rfl : j = 8 := by omega
       have hc := LX (P := Tryz.prog) wr 86 9 5 Tryz.underlying86 Tryz.underlying5 Tryz.underlying9 hown.rd;go_wp2
       go_ret
       exact ⟨by rw [sha, Hfin.out]; rfl, hbx⟩
theorem ZbQ (s : ByteArray) (w : World) (hs : s.size ≤ 9223372036854775807) :
  Calls Tryz.prog 65 #[.string s] w fun e w' => e = .returned (.int .i64 (num s.data.toList)) ∧ w = w' := by
 go_enter Tryz.func65, Tryz.ntmps65
 go_wp2
 go_loop [3, 4, 5] (fun r _ i => ∃ k : Nat, k ≤ 8 ∧ i = .int .i64 k ∧ r = An (BitVec.ofNat 64 (BR s.data.toList k))) (fun _ _ i => 8 - (intOf i).toNat)
 case atStart => exact ⟨0, by omega, rfl, rfl⟩
 case round =>
  obtain ⟨k, hk, rfl, rfl⟩ := hrel;by_cases hlt : k < 8
  ·have st := SK s.data.toList k hlt
   have sk := ZbL s.data.toList k hlt;have ek : ∀ (h : k < s.size), s.data.toList.getD k 0 = s[k] := by
    intro h;rw [List.getD_eq_getElem?_getD, List.getElem?_eq_getElem (by simpa using h)]; rfl
   generalize hn : BitVec.ofNat 64 (BR s.data.toList k) = n at st sk;have Hn := Veil.mk hn;have St := Veil.mk st;have Sk := Veil.mk sk;have Ek := Veil.mk ek;clear hn st sk ek;by_cases hl : k < s.size
   ·go_wp2
    go_round
    case rel => exact ⟨k + 1, by omega, by go_num, by rw [← St.out, Ek.out hl]⟩
    case measure => simp [intOf]; omega
   ·go_wp2
    go_round
    case rel => exact ⟨k + 1, by omega, by go_num, by rw [← Sk.out (by simp; omega)]⟩
    case measure => simp [intOf]; omega
  ·obtain rfl : k = 8 := by omega
   have e := ZbP s.data.toList;generalize hn : BitVec.ofNat 64 (BR s.data.toList 8) = n at e ⊢;clear hn;have E := Veil.mk e; clear e;go_wp2
   go_ret
   exact ⟨Zav E.out, rfl⟩
@[go_sem] theorem Zg0 {P : Program} (w : World) (t : TypeId) (s : ByteArray) (b : UInt8) (h : P.underlying t = some .string) :
  (Instr.index t (.string s) (w8 b)).run P w = if hi : b.toNat < s.size then .ok (w8 (s[b.toNat]'hi)) w else (boundsPanic .u8 b.toNat s.size .index).run P w := by
 show (Instr.index t (.string s) (.int .u8 _)).run P w = _
 rw [run_index_string w t s .u8 _ h];by_cases hi : b.toNat < s.size
 ·rw [dif_pos hi, dif_pos ⟨by omega, by omega⟩]; rfl
 ·rw [dif_neg hi, dif_neg (by omega)]
end
end
section
section
open Go
section
variable {P : Program} {t : TypeId}
theorem Zbo (a b : BitVec 32) (h : b.toNat ≠ 0) : binOp .quo t (Ag a) (Ag b) = pure (Ag (a / b)) := by
 show binOp .quo t (.int .u32 _) (.int .u32 _) = _
 rw [binOp_quo];have ha := a.isLt;have hz' : ¬ (b.toNat : Int) = 0 := by omega
 unfold Ag;rw [BitVec.toNat_udiv];have hd : a.toNat / b.toNat < 4294967296 := Nat.lt_of_le_of_lt (Nat.div_le_self _ _) ha;simp only [Op.intDiv, if_neg hz', IntKind.wrap_u32'];congr 2
 rw [← Int.ofNat_tdiv];generalize a.toNat / b.toNat = q at hd ⊢;omega
theorem ZaA (a b : BitVec 32) (h : b.toNat ≠ 0) : binOp .rem t (Ag a) (Ag b) = pure (Ag (a % b)) := by
 show binOp .rem t (.int .u32 _) (.int .u32 _) = _
 rw [binOp_rem];have hz' : ¬ (b.toNat : Int) = 0 := by omega
 unfold Ag;rw [BitVec.toNat_umod];simp only [Op.intDiv, if_neg hz'];congr 2
@[go_sem] theorem ZgA (a : BitVec 32) (n : Nat) (h : n < 4294967296) (h0 : 0 < n) : binOp .quo t (Ag a) (.int .u32 (no_index (OfNat.ofNat n))) = pure (Ag (a / (BitVec.ofNat 32 n))) := by
 rw [Dj n h, Zbo]; rw [BitVec.toNat_ofNat, Nat.mod_eq_of_lt h]; omega
@[go_sem] theorem Zgy (a : BitVec 32) (n : Nat) (h : n < 4294967296) (h0 : 0 < n) : binOp .rem t (Ag a) (.int .u32 (no_index (OfNat.ofNat n))) = pure (Ag (a % (BitVec.ofNat 32 n))) := by
 rw [Dj n h, ZaA]; rw [BitVec.toNat_ofNat, Nat.mod_eq_of_lt h]; omega
end
namespace Sm
open Tryz
theorem ZaB (c : BitVec 32) : c % 2#32 = c &&& 1#32 := by
 apply BitVec.eq_of_toNat_eq
 rw [BitVec.toNat_umod, BitVec.toNat_and];exact (Nat.and_one_is_mod _).symm
theorem R7 (c : BitVec 32) : c / 2#32 = c >>> 1 := by
 apply BitVec.eq_of_toNat_eq
 rw [BitVec.toNat_udiv, BitVec.toNat_ushiftRight, Nat.shiftRight_eq_div_pow];rfl
theorem ZbH (c : BitVec 32) : 4294967295#32 - c = ~~~ c := by
 apply BitVec.eq_of_toNat_eq
 have := c.isLt;rw [BitVec.toNat_sub, BitVec.toNat_not, BitVec.toNat_ofNat];omega
theorem ZZ (x : BitVec 32) (n : Int) (h0 : 0 < n) (h : n < 32) : (x >>> n.toNat ||| x <<< (32 - n).toNat) = CR x n.toNat := by
 rw [CR, BitVec.or_comm, show (32 - n).toNat = 32 - n.toNat from by omega]
theorem ZbN (l : List UInt8) : 32 * (BR l 7 : Int) + ((l.getD 7 0).toNat : Int) / 8 = (num l : Int) := by
 have h : BR l 8 = 256 * BR l 7 + (l.getD 7 0).toNat := rfl;unfold num;rw [h];generalize BR l 7 = n;generalize (l.getD 7 0).toNat = b;omega
theorem X9 (a b c d : Nat) (ha : a < 256) (hb : b < 256) (hc : c < 256) (hd : d < 256) :
  (((a * 2 ^ 24 % 2 ^ 32 ||| b * 2 ^ 16 % 2 ^ 32) ||| c * 2 ^ 8 % 2 ^ 32) ||| d) = a * 16777216 + b * 65536 + c * 256 + d := by
 rw [Nat.mod_eq_of_lt (show a * 2 ^ 24 < 2 ^ 32 from by omega), Nat.mod_eq_of_lt (show b * 2 ^ 16 < 2 ^ 32 from by omega), Nat.mod_eq_of_lt (show c * 2 ^ 8 < 2 ^ 32 from by omega)]
 rw [nat_join 24 (a * 2 ^ 24) (b * 2 ^ 16) (by omega) (by omega), nat_join 16 (a * 2 ^ 24 + b * 2 ^ 16) (c * 2 ^ 8) (by omega) (by omega), nat_join 8 (a * 2 ^ 24 + b * 2 ^ 16 + c * 2 ^ 8) d (by omega) (by omega)]
theorem Oq (x : BitVec 32) (n : Nat) (hx : x.toNat < 256) (hn : n ≤ 16777216) : (x * BitVec.ofNat 32 n).toNat = x.toNat * n := by
 rw [BitVec.toNat_mul, BitVec.toNat_ofNat, Nat.mod_eq_of_lt (show n < 2 ^ 32 from by omega)]
 have h : x.toNat * n ≤ 255 * 16777216 := Nat.mul_le_mul (by omega) hn
 exact Nat.mod_eq_of_lt (by omega)
theorem PJ (x y : BitVec 32) (h : x.toNat + y.toNat < 4294967296) : (x + y).toNat = x.toNat + y.toNat := by
 rw [BitVec.toNat_add];exact Nat.mod_eq_of_lt (by omega)
theorem X8 (a b c d : UInt8) : bw a * 16777216#32 + bw b * 65536#32 + bw c * 256#32 + bw d = JL a b c d := by
 have q : ∀ x : UInt8, (bw x).toNat = x.toNat := fun x => by
  have := x.toNat_lt;unfold bw;rw [BitVec.toNat_setWidth, UInt8.toNat_toBitVec, Nat.mod_eq_of_lt (by omega)]
 have ha := a.toNat_lt;have hb := b.toNat_lt;have hc := c.toNat_lt;have hd := d.toNat_lt;apply BitVec.eq_of_toNat_eq
 have m1 := Oq (bw a) 16777216 (by rw [q]; exact ha) (by omega)
 have m2 := Oq (bw b) 65536 (by rw [q]; exact hb) (by omega)
 have m3 := Oq (bw c) 256 (by rw [q]; exact hc) (by omega)
 rw [q] at m1 m2 m3;have s1 := PJ (bw a * 16777216#32) (bw b * 65536#32) (by rw [m1, m2]; omega)
 have s2 := PJ (bw a * 16777216#32 + bw b * 65536#32) (bw c * 256#32) (by rw [s1, m1, m2, m3]; omega)
 have s3 := PJ (bw a * 16777216#32 + bw b * 65536#32 + bw c * 256#32) (bw d) (by rw [s2, s1, m1, m2, m3, q]; omega)
 rw [s3, s2, s1, m1, m2, m3, q];unfold JL;rw [BitVec.toNat_or, BitVec.toNat_or, BitVec.toNat_or, BitVec.toNat_shiftLeft, BitVec.toNat_shiftLeft, BitVec.toNat_shiftLeft, Nat.shiftLeft_eq, Nat.shiftLeft_eq, Nat.shiftLeft_eq, q, q, q, q];exact (X9 _ _ _ _ ha hb hc hd).symm
def EN (l : List UInt8) : List UInt8 := ending l l.length
theorem Zfn (l : List UInt8) (st : S8) (n m : Nat) : Bq l st (n + m) = Bq (l.drop (64 * n)) (Bq l st n) m := by
 induction m with
 | zero => rfl
 | succ m ih => rw [← Nat.add_assoc, Bq, Bq, ih, List.drop_drop, show 64 * n + 64 * m = 64 * (n + m) from by omega]
theorem WD (l r : List UInt8) (st : S8) (n : Nat) (h : 64 * n ≤ l.length) : Bq (l ++ r) st n = Bq l st n := by
 induction n with
 | zero => rfl
 | succ n ih =>
  rw [Bq, Bq, ih (by omega), List.drop_append_of_le_length (by omega), List.take_append_of_le_length (by rw [List.length_drop]; omega)]
theorem ZbC (l : List UInt8) : EN l = l.take (64 * (l.length / 64)) ++ ending (l.drop (64 * (l.length / 64))) l.length := by
 unfold EN ending;have hz : Bx ((l.drop (64 * (l.length / 64))).length + 1) = Bx (l.length + 1) := by
  rw [List.length_drop];unfold Bx;omega
 rw [hz];simp only [← List.append_assoc, List.take_append_drop]
theorem ZbB (l : List UInt8) : Bq (EN l) BA ((EN l).length / 64) = I2 l := by
 unfold I2;have hl : (l.take (64 * (l.length / 64))).length = 64 * (l.length / 64) := by rw [List.length_take]; omega
 have hs := ZbC l;have hlen : (EN l).length / 64 = l.length / 64 + (ending (l.drop (64 * (l.length / 64))) l.length).length / 64 := by
  rw [hs, List.length_append, hl];omega
 rw [hlen, Zfn];have e1 : (EN l).drop (64 * (l.length / 64)) = ending (l.drop (64 * (l.length / 64))) l.length := by
  rw [hs];exact List.drop_left' hl
 have e2 : Bq (EN l) BA (l.length / 64) = Bq l BA (l.length / 64) := by
  rw [hs, WD _ _ _ _ (by omega)]
  have e := WD (l.take (64 * (l.length / 64))) (l.drop (64 * (l.length / 64))) BA (l.length / 64) (by rw [hl]; exact Nat.le_refl _)
  rw [List.take_append_drop] at e;exact e.symm
 rw [e1, e2]
def FD (st : S8) (k : Nat) : List UInt8 := (List.range k).map fun i => wb (st.list.getD (i / 4) 0 >>> (24 - 8 * (i % 4)))
theorem ZbD (st : S8) (k : Nat) : FD st (k + 1) = FD st k ++ [wb (st.list.getD (k / 4) 0 >>> (24 - 8 * (k % 4)))] := by simp [FD, List.range_succ]
theorem ZbE (st : S8) (k : Nat) : (FD st k).length = k := by simp [FD]
theorem ZbF (st : S8) : FD st 32 = st.list.flatMap EW := by
 obtain ⟨a, b, c, d, e, f, g, h⟩ := st;have z : ∀ x : BitVec 32, x >>> 0 = x := fun x => by simp
 show [wb (a >>> 24), wb (a >>> 16), wb (a >>> 8), wb (a >>> 0), wb (b >>> 24), wb (b >>> 16), wb (b >>> 8), wb (b >>> 0), wb (c >>> 24), wb (c >>> 16), wb (c >>> 8), wb (c >>> 0), wb (d >>> 24), wb (d >>> 16), wb (d >>> 8), wb (d >>> 0), wb (e >>> 24), wb (e >>> 16), wb (e >>> 8), wb (e >>> 0), wb (f >>> 24), wb (f >>> 16), wb (f >>> 8), wb (f >>> 0), wb (g >>> 24), wb (g >>> 16), wb (g >>> 8), wb (g >>> 0), wb (h >>> 24), wb (h >>> 16), wb (h >>> 8), wb (h >>> 0)] = _
 simp only [z];rfl
end Sm
end
namespace Sm
open Tryz
def Fj (r s : List (BitVec 32)) : Nat → List (BitVec 32)
 | 0 => r
 | k + 1 => (Fj r s k).set k ((Fj r s k).getD k 0 + s.getD k 0)
theorem Zfj (r s : List (BitVec 32)) (k : Nat) : (Fj r s k).length = r.length := by
 induction k with
 | zero => rfl
 | succ k ih => rw [Fj, List.length_set, ih]
theorem Zfk (r s : S8) : (Fj r.list s.list 8).map Ag = (s.add r).cells := by
 obtain ⟨a, b, c, d, e, f, g, h⟩ := r;obtain ⟨a', b', c', d', e', f', g', h'⟩ := s;show [Ag (a + a'), Ag (b + b'), Ag (c + c'), Ag (d + d'), Ag (e + e'), Ag (f + f'), Ag (g + g'), Ag (h + h')] = [Ag (a' + a), Ag (b' + b), Ag (c' + c), Ag (d' + d), Ag (e' + e), Ag (f' + f), Ag (g' + g), Ag (h' + h)]
 rw [BitVec.add_comm a, BitVec.add_comm b, BitVec.add_comm c, BitVec.add_comm d, BitVec.add_comm e, BitVec.add_comm f, BitVec.add_comm g, BitVec.add_comm h]
theorem ZeC (s : S8) : s.cells = s.list.map Ag := rfl
theorem Ik (s : S8) : s.list.length = 8 := rfl
theorem LS : Ed.length = 64 := rfl
end Sm
end
end Go.Proofs.YtldohjjoicmfpaaGreatDoor
