import Derived.Test.YtiidnoejnphocaaGreatDoorKs19
import Derived.Below
import Derived.ChangeSame
import Derived.Test.YtiidnoejnphocaaGreatDoorCards
import Derived.Test.YtiidnoejnphocaaGreatDoorTie
import Derived.WalkKit
import Derived.ProofKit
import Derived.OpenShut
import Derived.Deep.DeepHandedRow
import Derived.Lib.LaidTab
import Derived.Stop.LaidErr
import Derived.ShutString
import Derived.SizedLaws
import Derived.Carry
set_option linter.unusedSectionVars false
set_option linter.unusedVariables false
set_option linter.unusedSimpArgs false
namespace Go.Proofs.YtiidnoejnphocaaGreatDoor
section
namespace Pe
open _root_.Go.Proofs.Tryz
open Go Go.RowKit Co Sg Ac It Sl Tp
set_option maxRecDepth 100000
set_option maxHeartbeats 8000000
structure Wi (w : Wish) : Prop where
 who : CT w.who
 kind : CT w.kind
 on : CT w.on
 whom : CT w.whom
 spoil : CT w.spoil
theorem Ph : ∀ (l : List Wish) (i : Int) (k out : List Ac.Act), (EM i l k out).length ≤ out.length + l.length
 | [], _, _, _ => Nat.le_refl _
 | w :: l, i, k, out => by
  rw [Tr, List.length_cons];split
  ·have := Ph l (i + 1) (Eh k (D7 k (Dp k w) i w)).1 (out ++ [D7 k (Dp k w) i w])
   rw [List.length_append, List.length_singleton] at this;omega
  ·have := Ph l (i + 1) k out
   omega
theorem XV (ps : List Int) (m : Mirror) (b : Batch) : (take ps m b).1.heads.length ≤ m.heads.length + 1 := by
 unfold take;repeat' split
 all_goals first | exact Nat.zero_le _ | exact Nat.le_succ _ | (simp only [List.length_append, List.length_singleton]; omega)
theorem XK (hs : AC prog 4 [] [] (.bo true) []) (ws : List Wish) (m n : Int) (hlw : ws.length ≤ 140737488355328) (hw : ∀ w ∈ ws, Wi w) (hm : CT m) (hn : CT n) :
  AC prog 3 [.sl .ro (ws.map DI), .it .i64 m, .it .i64 n] [] (.bo true) [] := by
 have kb := Zea ws 16 hlw;cases hb : (decide ((ws.length : Int) ≤ 16) && ws.all fun w => decide (w.txt.length ≤ 200)) with
 | false =>
  rw [hb] at kb;refine Ai [4, 5, 7, 6, 8, 9, 10, 11, 12, 13, 14, 15, 16] [] func3 ?_;refine run ?_;refine cp hs ?_;refine run ?_;refine cp kb ?_;refine run ?_;exact Ab
 | true =>
 rw [hb] at kb;rw [Bool.and_eq_true, decide_eq_true_eq, List.all_eq_true] at hb;have hw16 : ws.length ≤ 16 := by omega
 have hwz : ∀ w ∈ ws, Wz w := fun w hx => ⟨(hw w hx).who, (hw w hx).kind, (hw w hx).on, (hw w hx).whom, of_decide_eq_true (hb.2 w hx), (hw w hx).spoil⟩
 have kg := ZbO ws hw16 hwz;have hgl := Ph ws 0 [] [];have hgr := Pg ws 0 [] [] (fun a h => nomatch h)
 simp only [List.length_nil, Nat.zero_add] at hgl;generalize EM 0 ws [] [] = G at *;have ke := XT G (by omega)
 have hgood : Sl.Good CI 2 (Bc 2) (Dk 0 (G.map Av)) := XL (fun i hi => by
  obtain ⟨a, ha, rfl⟩ := List.mem_map.1 hi;exact ⟨a, rfl, hgr a ha⟩) (by rw [List.length_map]; omega)
 have hEl : (Dk 0 (G.map Av)).length ≤ 16 := by rw [LY, List.length_map]; omega
 have hEz : ∀ e ∈ Dk 0 (G.map Av), Iz e.item := fun e he => by
  obtain ⟨_, h2⟩ := NZ (G.map Av) 0 (by decide) (by rw [List.length_map]; omega) e he
  obtain ⟨a, ha, h3⟩ := List.mem_map.1 h2;rw [← h3];exact DE (Dg [] (hgr a ha)).1
 generalize Dk 0 (G.map Av) = E at *;have hEok : EOk E := ⟨by omega, hEz⟩
 have hsE := Fa E;have kp1 := EZ m ((E.length : Int) + 1) hm (by omega)
 have kp2 := EZ n ((E.length : Int) + 1) hn (by omega)
 have hp1 := Gk m (m := (E.length : Int) + 1) (by omega)
 have hp2 := Gk n (m := (E.length : Int) + 1) (by omega)
 have wl : IntKind.i64.wrap ((E.length : Int) + 1) = (E.length : Int) + 1 := wrap64 (by omega) (by omega)
 have k2 := JZ 2 (by decide)
 change AC _ _ [.it .i64 2] _ _ _ at k2;have kpub := NY;have hInL : InL CI := ⟨by decide, fun i hi => by
  have h4 : ∀ j, 0 ≤ (Bc j).pub ∧ (Bc j).pub ≤ 2305843009213693950 := fun j => by
   obtain ⟨h1, h2, h3⟩ := Key.right_iff.1 (L6 j);have := Zzr 37 (Bc j).secret.toNat;rw [h3];omega
  have : i = (Bc 0).pub ∨ i = (Bc 1).pub ∨ i = (Bc 2).pub ∨ i = (Bc 3).pub := by simpa [CI] using hi
  rcases this with rfl | rfl | rfl | rfl
  ·have := h4 0; omega
  ·have := h4 1; omega
  ·have := h4 2; omega
  ·have := h4 3; omega⟩
 have hk2 := Key.right_iff.1 (L6 2);refine Ai [4, 5, 7, 6, 8, 9, 10, 11, 12, 13, 14, 15, 16] [] func3 ?_;rw [F7, F7, F7, F7, F7, F7, F7];refine Wv (fun e S => e 1 = .it .i64 m ∧ e 2 = .it .i64 n ∧ e 7 = .bo true ∧ e 9 = BY E ∧ S = [] ∧ ∃ x y : Nat, e 10 = .it .i64 (x : Int) ∧ e 11 = .it .i64 (y : Int) ∧ x ≤ y ∧ y ≤ E.length) ?_ ?_
 ·intro Kt hKt
  refine run ?_;refine cp hs ?_;refine run ?_;refine cp kb ?_;refine run ?_;refine cp kg ?_;refine run ?_;refine cp ke ?_;refine Aa @wl ?_;refine cp kp1 ?_;refine Aa @wl ?_;refine cp kp2 ?_;generalize AZ m ((E.length : Int) + 1) = p at *;generalize AZ n ((E.length : Int) + 1) = q at *;obtain ⟨x, rfl⟩ : ∃ x : Nat, p = (x : Int) := ⟨p.toNat, by omega⟩
  obtain ⟨y, rfl⟩ : ∃ y : Nat, q = (y : Int) := ⟨q.toNat, by omega⟩
  by_cases hxy : (x : Int) > (y : Int)
  ·refine Aa @hxy ?_
   exact hKt _ _ ⟨Ad, Ad, Ad, Ad, rfl, y, x, Ad, Ad, by omega, by omega⟩
  ·refine Aa @hxy ?_
   exact hKt _ _ ⟨Ad, Ad, Ad, Ad, rfl, x, y, Ad, Ad, by omega, by omega⟩
 clear hs kb kg ke kp1 kp2 hp1 hp2;rintro e S ⟨s1, s2, s7, s9, rfl, x, y, s10, s11, hxy, hyl⟩
 have ht : (0 : Int) ≤ 100 ∧ (100 : Int) ≤ 1099511627776 := by decide
 have ka := TX (Bc 2) 2 (E.take x) 100 (by omega) (by rw [List.length_take]; omega) (fun e he => hEz e (List.mem_of_mem_take he))
 have kbh := TX (Bc 2) 2 (E.take y) 100 (by omega) (by rw [List.length_take]; omega) (fun e he => hEz e (List.mem_of_mem_take he))
 have hn1 := Yp hgood (x := x) (y := y) (by omega) (CL (Bc 2) 2 (E.take y) 100) ht
 have kmk := Zcd E (CL (Bc 2) 2 (E.take y) 100) (CL (Bc 2) 2 (E.take x) 100) hEok;rw [hn1] at kmk;have hc1 := Yq CI (CL (Bc 2) 2 (E.take x) 100) (CL (Bc 2) 2 (E.take y) 100) [];have kch := Zcf CI ⟨CL (Bc 2) 2 (E.take x) 100, CL (Bc 2) 2 (E.take y) 100, (CL (Bc 2) 2 (E.take x) 100).root, []⟩ hInL (by simp)
 rw [hc1] at kch;have t1 := fun (p : Mirror) (h1 : p.server = 2) (h2 : p.entries = E.take 0) (hx : 0 < x) => Q6 hgood p h1 h2 (frm := 0) (y := x) (Nat.le_refl 0) hx (Nat.zero_le _) (by omega) (by omega) ht
 have t2 := fun (p : Mirror) (f : Nat) (h1 : p.server = 2) (h2 : p.entries = E.take x) (hf : f ≤ x) (hfy : f < y) => Q6 hgood p h1 h2 (frm := f) (y := y) hf hfy hxy hyl (by omega) ht
 have hmt := fun (x : Nat) => List.map_take (f := Eu) (l := E) (i := x)
 generalize CL (Bc 2) 2 (E.take x) 100 = A at *;generalize CL (Bc 2) 2 (E.take y) 100 = B at *;generalize (Jp E B A).1 = ev1 at *;have kmn := ZaG 2;have hExl : EOk (E.take x) := hEok.take x;have hEyl : EOk (E.take y) := hEok.take y;have hx9 : (x : Int) ≤ (E.length : Int) := by omega
 have hy9 : (y : Int) ≤ (E.length : Int) := by omega
 generalize Bc 2 = kk at *;have kpf := EZ (IntKind.i64.wrap (m + n)) ((x : Int) + 1) (NP _) (by omega)
 have hpf := Gk (IntKind.i64.wrap (m + n)) (m := (x : Int) + 1) (by omega)
 have wx : IntKind.i64.wrap ((x : Int) + 1) = (x : Int) + 1 := wrap64 (by omega) (by omega)
 generalize AZ (IntKind.i64.wrap (m + n)) ((x : Int) + 1) = f at *;obtain ⟨f, rfl⟩ : ∃ f' : Nat, f = (f' : Int) := ⟨f.toNat, by omega⟩
 refine Aa (A6 @s1 @s2 @s7 @s9 @s10 @s11) ?_;refine cp k2 ?_;refine Aa (A8 @s1 @s2 @s7 @s9 @s10 @s11 @hsE @hx9) ?_;refine cp ka ?_;refine Aa (A8 @s1 @s2 @s7 @s9 @s10 @s11 @hsE @hy9) ?_;refine cp kbh ?_;refine Aa (A6 @s1 @s2 @s7 @s9 @s10 @s11) ?_;refine cp kmk ?_;refine Aa (A6 @s1 @s2 @s7 @s9 @s10 @s11) ?_;refine cp kpub ?_;refine Aa (A6 @s1 @s2 @s7 @s9 @s10 @s11) ?_;refine cp kch ?_;by_cases hy0 : y = 0
 ·have q0 : ((y : Int) == 0) = true := beq_iff_eq.2 (by omega)
  refine Aa (A7 @s1 @s2 @s7 @s9 @s10 @s11 @q0) ?_;exact Ab
 have q0 : ((y : Int) == 0) = false := beq_eq_false_iff_ne.2 (by omega)
 refine Aa (A7 @s1 @s2 @s7 @s9 @s10 @s11 @q0) ?_;refine cp kmn ?_;have n0 : ((0 : Int) != 0) = false := rfl;have z0 : ((0 : Int) == 0) = true := rfl;have hkt : ∀ (p : Mirror) (F : Nat), p.server = 2 → p.entries = E.take x → p.heads.length ≤ 1 → F ≤ x → F < y → ∃ r : Mirror, AC prog 15 [Bn CI, Jq p, PX ⟨B, (F : Int), (E.take y).drop F⟩] [] (.tup [Jq r, .it .i64 0]) [] ∧ AC prog 16 [BY r.entries, BY (E.take y)] [] (.bo true) [] := fun p F h1 h2 h3 h4 h5 => by
  obtain ⟨r, hr, hrs, hre⟩ := t2 p F h1 h2 h4 h5;have kt := Sx CI p ⟨B, (F : Int), (E.take y).drop F⟩ hInL (by rw [h2]; exact hExl) (by rw [h2, List.length_take]; omega) (by omega) (hEyl.drop F) (by show -9223372036854775808 ≤ (F : Int) ∧ (F : Int) ≤ 9223372036854775807; omega)
  rw [hr] at kt;have ks := Zb2 r.entries (E.take y) (by rw [hre]; exact hEyl) hEyl
  rw [decide_eq_true hre] at ks;exact ⟨r, kt, ks⟩
 have hfy : (f : Int) ≤ (x : Int) := by omega
 by_cases hx0 : x = 0
 ·have qx : ¬ (x : Int) > 0 := by omega
  have qf : ((f : Int) == (y : Int)) = false := beq_eq_false_iff_ne.2 (by omega)
  obtain ⟨r, kt, ks⟩ := hkt ⟨2, [], []⟩ f rfl (by rw [hx0]; rfl) (by simp) (by omega) (by omega)
  have hfy2 : (f : Int) ≤ (y : Int) := by omega
  refine Aa (A8 @s1 @s2 @s7 @s9 @s10 @s11 @wx @qx) ?_;refine cp kpf ?_;refine Aa (A7 @s1 @s2 @s7 @s9 @s10 @s11 @qf) ?_;refine cp kpub ?_;refine Aa (A9 @s1 @s2 @s7 @s9 @s10 @s11 @hsE @hy9 @hfy2) ?_;refine cp kt ?_;refine Aa (A8 @s1 @s2 @s7 @s9 @s10 @s11 @hsE @hy9) ?_;refine cp ks ?_;refine Aa (A7 @s1 @s2 @s7 @s9 @s10 @s11 @z0) ?_;exact Ab
 ·have qx : (x : Int) > 0 := by omega
  obtain ⟨r1, hr1, hs1, he1⟩ := t1 ⟨2, [], []⟩ rfl rfl (by omega)
  rw [List.drop_zero] at hr1;have hth := XV CI ⟨2, [], []⟩ ⟨A, ((0 : Nat) : Int), E.take x⟩;rw [hr1] at hth;have kt1 := Sx CI ⟨2, [], []⟩ ⟨A, ((0 : Nat) : Int), E.take x⟩ hInL (by exact hEok.take 0) (by simp) (by simp) hExl (by show -9223372036854775808 ≤ ((0 : Nat) : Int) ∧ ((0 : Nat) : Int) ≤ 9223372036854775807; decide)
  rw [hr1] at kt1;have hth : r1.heads.length ≤ 1 := hth;change AC _ _ _ _ (.tup [Jq r1, .it .i64 0]) _ at kt1;refine Aa (A7 @s1 @s2 @s7 @s9 @s10 @s11 @qx) ?_;refine cp kpub ?_;refine Aa (A8 @s1 @s2 @s7 @s9 @s10 @s11 @hsE @hx9) ?_;refine cp kt1 ?_;refine Aa (A7 @s1 @s2 @s7 @s9 @s10 @s11 @n0) ?_;by_cases hf : f = y
  ·have qf : ((f : Int) == (y : Int)) = true := by rw [hf]; exact beq_self_eq_true _
   obtain ⟨r, kt, ks⟩ := hkt r1 0 hs1 he1 hth (Nat.zero_le _) (by omega)
   rw [List.drop_zero] at kt;refine Aa (A7 @s1 @s2 @s7 @s9 @s10 @s11 @wx) ?_;refine cp kpf ?_;refine Aa (A7 @s1 @s2 @s7 @s9 @s10 @s11 @qf) ?_;refine cp kpub ?_;refine Aa (A8 @s1 @s2 @s7 @s9 @s10 @s11 @hsE @hy9) ?_;refine cp kt ?_;refine Aa (A8 @s1 @s2 @s7 @s9 @s10 @s11 @hsE @hy9) ?_;refine cp ks ?_;refine Aa (A7 @s1 @s2 @s7 @s9 @s10 @s11 @z0) ?_;exact Ab
  ·have qf : ((f : Int) == (y : Int)) = false := beq_eq_false_iff_ne.2 (by omega)
   obtain ⟨r, kt, ks⟩ := hkt r1 f hs1 he1 hth (by omega) (by omega)
   have hfy2 : (f : Int) ≤ (y : Int) := by omega
   refine Aa (A7 @s1 @s2 @s7 @s9 @s10 @s11 @wx) ?_;refine cp kpf ?_;refine Aa (A7 @s1 @s2 @s7 @s9 @s10 @s11 @qf) ?_;refine cp kpub ?_;refine Aa (A9 @s1 @s2 @s7 @s9 @s10 @s11 @hsE @hy9 @hfy2) ?_;refine cp kt ?_;refine Aa (A8 @s1 @s2 @s7 @s9 @s10 @s11 @hsE @hy9) ?_;refine cp ks ?_;refine Aa (A7 @s1 @s2 @s7 @s9 @s10 @s11 @z0) ?_;exact Ab
end Pe
end
section
namespace Pe
open _root_.Go.Proofs.Tryz
open Go Go.RowKit Co Sg Ac It Sl Tp
set_option maxRecDepth 100000
set_option maxHeartbeats 8000000
theorem ZdD (l : List Int) (hl : l.length ≤ 1000000) : AC prog 53 [Bn l] [] (Bn l) [] := by
 cases l with
 | nil =>
  refine AC.empties fun A c => ?_
  refine Ar [] [] func53 ?_;cases A with
  | none =>
   refine run ?_;exact Am
  | some A =>
   refine run ?_;exact Am
 | cons x l =>
  have hs1 : Ax 1 ((x :: l).map (AV.it .i64)) = true := Bh 1 (AV.it .i64) (fun _ => rfl) _
  have hl' : l.length ≤ 1000000 := by simp only [List.length_cons] at hl; omega
  show AC _ _ [.sl .ro ((x :: l).map (AV.it .i64))] _ (.sl .ro ((x :: l).map (AV.it .i64))) _
  simp only [List.map_cons] at hs1 ⊢;refine Ar [] [] func53 ?_;refine Aa @hs1 ?_;exact Am
theorem ZaA (l : List Int) (hl : l.length ≤ 1000000) : AC prog 19 [Bn l] [] (BN l []) [] := by
 have k := ZdD l hl;refine Ai [53] [] func19 ?_;refine run ?_;refine cp k ?_;refine run ?_;exact Am
theorem Zet (ps : List Int) (hps : ∀ p ∈ ps, -9223372036854775808 ≤ p ∧ p ≤ 9223372036854775807) {a : Ac.Act} (ha : Ac.right a = true) : AC prog 18 [BN ps [], AH a] [] (.tup [BN ps [a], .bo true]) [] := by
 have hs := Dg ps ha;have iza := DE hs.1;have k1 := Gi (Av a) iza;have k2 := Q7 ps (Av a) iza hps;have k3 := Nd (Av a) iza;rw [hs.1] at k1;rw [hs.2] at k2;show AC _ _ [BN ps [], AN (Av a)] _ (.tup [.agg [Bn ps, .sl .ro [AN (Av a)]], .bo true]) _
 generalize It.digest (Av a) = d at *;generalize Av a = it at *;refine Ai [51, 52, 23] [] func18 ?_;refine run ?_;refine cp k1 ?_;refine run ?_;refine cp k2 ?_;refine run ?_;refine cp k3 ?_;refine run ?_;refine AF (fun m e S => e 2 = .ptr 0 0 ∧ e 3 = .ptr 1 0 ∧ e 4 = .ptr 2 0 ∧ e 7 = .it .i64 0 ∧ e 30 = .it .i64 0 ∧ e 31 = .it .i64 0 ∧ S = [.cells [Bn ps, .sl .ro []], .cells (FT it), .cells [.sl .full [], .sl .full []]]) 0 ⟨Ad, Ad, Ad, Ad, Ad, Ad, rfl⟩ ?_
 rintro m e S ⟨s2, s3, s4, s7, s30, s31, rfl⟩
 rw [Ei s4];refine Aa (A6 @s2 @s3 @s4 @s7 @s30 @s31) ?_;exact Am
theorem Yl (s : By) : AC prog 174 [.sl .ro [.st s], .it .i64 0, .it .i64 1] [] (.tup []) [] := by
 refine AC.enter4 [180] [] [(6, ([], [1000000], []))] [] func174 rfl (by decide) (by decide) (Nat.le_of_ble_eq_true rfl) (by kernel_rfl) ?_; refine F8 ?_
 refine run4 ?_
 refine AF (fun m e S => e 2 = .it .i64 1 ∧ e 6 = .it .i64 1 ∧ S = []) 0 ⟨Ad, Ad, rfl⟩ ?_
 rintro m e S ⟨s2, s6, rfl⟩
 refine runf4 (an @s2 @s6) ?_
 exact Ab
theorem Za2 : AC prog 109 [.it .u64 1] [] (.it .i64 (AU 1)) [] := by
 have k := MR 1 (by decide)
 refine Ai [184, 183] [] func109 ?_;refine run ?_;refine cp k ?_;refine run ?_;exact Ab
theorem ZbK (l : By) (hs : l.length ≤ 70368744177664) : AC prog 187 [.st l] [] (.st (Sm.hex l)) [] := by
 refine AC.ofBelow (by kernel_rfl) fun w g cargs ht hargs => ?_
 rw [KX hargs];refine (ZbJ ⟨l.toArray⟩ w (by simp [ByteArray.size]; omega)).mono ?_
 rintro r w' ⟨rfl, hb⟩
 refine ⟨_, rfl, fun g' => ?_, hb⟩
 exact .st g' _
theorem Zac (s : By) (d : Int) : AC prog 108 [.sl .ro [.st s], .it .i64 0, .it .i64 1, .it .i64 d] [] (.tup []) [] := by
 have k := Yl s;refine Ai [174] [] func108 ?_;refine run ?_;refine AF (fun m e S => e 0 = .sl .ro [.st s] ∧ e 1 = .it .i64 0 ∧ e 2 = .it .i64 1 ∧ S = []) 0 ⟨Ad, Ad, Ad, rfl⟩ ?_
 rintro m e S ⟨s0, s1, s2, rfl⟩
 refine Aa (A3 @s0 @s1 @s2) ?_;refine cp k ?_;refine run ?_;exact Ab
theorem Yi (s : By) : AC prog 56 [.sl .ro [.st s]] [] (.tup []) [] := by
 have k1 := Za2;have k2 := Zac s (AU 1);refine Ai [109, 108] [] func56 ?_;refine run ?_;refine cp k1 ?_;refine run ?_;refine cp k2 ?_;refine run ?_;exact Ab
theorem Zdz (s : By) : AC prog 57 [.sl .ro [.st s]] [] (.sl .ro [.st s]) [] := by
 refine Ai [] [] func57 ?_;refine run ?_;exact Am
theorem ZbF (n : Int) (h : -9223372036854775808 ≤ n ∧ n ≤ 9223372036854775807) : AC prog 111 [.it .i64 n] [] (.st (CA n)) [] := by
 have k1 := Dl [97, 99, 116, 111, 114] (by simp)
 have k2 := Cm n (by omega) (by omega)
 have hnl := Aj n (by omega)
 have htl : (text [97, 99, 116, 111, 114]).length ≤ 20 := by decide
 have k3 := Jc (text [97, 99, 116, 111, 114] ++ Ag n) (by rw [List.length_append]; omega)
 have hsl := show (Sm.sha (text [97, 99, 116, 111, 114] ++ Ag n)).length = 32 from rfl
 have k4 := ZbK (Sm.sha (text [97, 99, 116, 111, 114] ++ Ag n)) (by omega)
 have hhl := Th (Sm.sha (text [97, 99, 116, 111, 114] ++ Ag n));unfold CA;generalize text [97, 99, 116, 111, 114] = x at *;generalize Ag n = y at *;generalize Sm.sha (x ++ y) = z at *;generalize Sm.hex z = u at *;have hb16 : 16 ≤ u.length := by omega
 refine Ai [158, 152, 61, 187] [] func111 ?_;refine run ?_;refine cp k1 ?_;refine run ?_;refine cp k2 ?_;refine run ?_;refine cp k3 ?_;refine run ?_;refine cp k4 ?_;refine Aa @hb16 ?_;exact Ab
end Pe
end
section
namespace Pe
open _root_.Go.Proofs.Tryz
open Go Go.RowKit
set_option maxRecDepth 100000
set_option maxHeartbeats 4000000
variable [Tab]
section
variable {P : Program} {pf rf : List FuncId} {Kp lp wp : List Nat}
def EA (P : Program) (pf rf : List FuncId) (Kp lp wp : List Nat) : List AO → Af → Ae → (Af → Ae → Prop) → Prop
 | [], e, S, K => K e S
 | o :: rest, e, S, K => ∃ b, EP o.gd e = some b ∧ match b with
  | true => Dw P pf rf Kp lp wp [⟨o.dst, o.op, none⟩] e S fun e' S' => EA P pf rf Kp lp wp rest e' S' K
  | false => EA P pf rf Kp lp wp rest (put e o.dst (.tup [])) S K
theorem ZeF (ops : Array Oper) (o : Oper) (e : Af) : EP (C9 ops o).gd e = BP ops o e := by
 unfold C9 BP;cases hgd : o.guard with
 | none => rfl
 | some p =>
  obtain ⟨j, want⟩ := p;simp only [EP, LE];cases hd : (ops[j]?).bind (·.dst) with
  | none => cases want <;> rfl
  | some d =>
   simp only
   cases he : e d with
   | bo b => cases b <;> cases want <;> rfl
   | tup vs => cases vs <;> cases want <;> rfl
   | _ => rfl
theorem BK.unguard {cls : Op → Cls} {o : Oper} {e : Af} {S S' : Ae} {v : AV} (h : BK P Kp lp wp cls { o with guard := none } e S v S') : BK P Kp lp wp cls o e S v S' := h
theorem HS {ops : Array Oper} {Q : Af → Ae → Prop} : ∀ (l : List Oper) (e : Af) (S : Ae), EA P pf rf Kp lp wp (l.map (C9 ops)) e S Q → Ci P Kp lp wp (AT P pf rf) ops Q l e S
 | [], e, S, h => h
 | o :: rest, e, S, h => by
  simp only [List.map_cons, EA] at h;obtain ⟨b, hb, h⟩ := h;rw [ZeF] at hb;unfold Ci;simp only [hb];cases b with
  | true =>
   simp only at h ⊢
   have h1 := Ga (ops := ops) [{ o with guard := none }] e S (show Dw P pf rf Kp lp wp [⟨o.dst, o.op, none⟩] e S _ from h)
   unfold Ci at h1;simp only [BP] at h1;obtain ⟨v, S', h2, h3⟩ := h1;exact ⟨v, S', h2.unguard, HS rest _ _ h3⟩
  | false =>
   simp only at h ⊢
   exact HS rest _ _ h
section
variable {N N0 : Nat} {Q : AX → Af → Ae → Prop} {e : Af} {S : Ae}
theorem JT {cls : Op → Cls} {ops : Array Oper} {Q : Af → Ae → Prop} (rest : List Oper) : ∀ (l : List Oper) (e : Af) (S : Ae), Ci P Kp lp wp cls ops (Ci P Kp lp wp cls ops Q rest) l e S → Ci P Kp lp wp cls ops Q (l ++ rest) e S
 | [], _, _, h => h
 | o :: l, e, S, h => by
  simp only [List.cons_append, Ci] at h ⊢;split at h
  ·obtain ⟨v, S', hx, h⟩ := h
   exact ⟨v, S', hx, JT rest l _ _ h⟩
  ·exact JT rest l _ _ h
  ·exact h
theorem QG {pf rf : List FuncId} {ops : Array Oper} {Q : Af → Ae → Prop} {o : Oper} {rest : List Oper} {e : Af} {S S' : Ae} {v : AV} (h : AE P o e S v S') (hkeep : keeps Kp S S') (h' : Ci P Kp lp wp (AT P pf rf) ops Q rest (put e o.dst v) S') (hg : o.guard = none := by rfl) (hk : E5 lp wp o.dst o.op = .ot := by rfl) (hc : AT P pf rf o.op = .write := by rfl) : Ci P Kp lp wp (AT P pf rf) ops Q (o :: rest) e S := by
 unfold Ci;simp only [BP, hg];refine ⟨v, S', ?_, h'⟩
 unfold BK;rw [hk];simp only [hc, B0];exact ⟨h, hkeep⟩
theorem Xr {pf rf : List FuncId} {ops : Array Oper} {Q : Af → Ae → Prop} {o : Oper} {rest : List Oper} {e : Af} {S : Ae} {v : AV} (h : ∀ R, AE P o e (S ++ R) v (S ++ R)) (h' : Ci P Kp lp wp (AT P pf rf) ops Q rest (put e o.dst v) S) (hg : o.guard = none := by rfl) (hk : E5 lp wp o.dst o.op = .ot := by rfl) (hc : AT P pf rf o.op = .read := by rfl) : Ci P Kp lp wp (AT P pf rf) ops Q (o :: rest) e S := by
 unfold Ci;simp only [BP, hg];refine ⟨v, S, ?_, h'⟩
 unfold BK;rw [hk];simp only [hc, B0];exact ⟨by simpa using h, fun _ _ => rfl⟩
theorem Pz {α : Type} : ∀ l : List α, (List.range l.length).filterMap (fun i => l[i]?) = l
 | [] => rfl
 | x :: l => by
  have := Pz l;rw [List.length_cons, List.range_succ_eq_map, List.filterMap_cons, List.filterMap_map];exact congrArg (x :: ·) this
theorem HW.spec4 (pf rf : List FuncId) (Kp lp wp : List Nat) {id : Nat} {ops : Array Oper} (hm : P.follows .mixedOrders = true) (hB : K6 lp wp (AT P pf rf) ops (List.range ops.size) = true) (hds : Db N ops = true) (h : Ci P Kp lp wp (AT P pf rf) ops (Q .norm) ops.toList e S) : HW P N N0 (.region id ops true) Q e S := fun w0 g0 a w hn hc => by
 refine Ov (Kp := Kp) hm hB hds (fun e S _ _ hc hq => ⟨e, S, hc, hq⟩) hc ?_
 have hl := Pz ops.toList;simp only [Array.length_toList, Array.getElem?_toList] at hl
 rw [hl];exact h
theorem HW.spec (pf rf : List FuncId) (Kp lp wp : List Nat) {id : Nat} {ops : Array Oper} (hm : P.follows .mixedOrders = true) (hB : K6 lp wp (AT P pf rf) ops (List.range ops.size) = true) (hds : Db N ops = true) (h : EA P pf rf Kp lp wp (ops.toList.map (C9 ops)) e S (Q .norm)) : HW P N N0 (.region id ops true) Q e S := fun w0 g0 a w hn hc => by
 refine Ov (Kp := Kp) hm hB hds (fun e S _ _ hc hq => ⟨e, S, hc, hq⟩) hc ?_
 have hl := Pz ops.toList;simp only [Array.length_toList, Array.getElem?_toList] at hl
 rw [hl];exact HS _ _ _ h
end
variable {K : Af → Ae → Prop} {e e' : Af} {S S' : Ae} {rest : List AO}
theorem g4 {d : Option Nat} {op : Op} {gd : Option (Option Nat × Bool)} (hg : EP gd e = some true) (h : Dw P pf rf Kp lp wp [⟨d, op, none⟩] e S fun e' S' => EA P pf rf Kp lp wp rest e' S' K) : EA P pf rf Kp lp wp (⟨d, op, gd⟩ :: rest) e S K := ⟨true, hg, h⟩
theorem ZbZ {d : Option Nat} {op : Op} {gd : Option (Option Nat × Bool)} (hg : EP gd e = some false) (h : EA P pf rf Kp lp wp rest (put e d (.tup [])) S K) : EA P pf rf Kp lp wp (⟨d, op, gd⟩ :: rest) e S K := ⟨false, hg, h⟩
theorem Iv (h : EA P pf rf Kp lp wp rest e' S' K) (hk : keeps Kp S S' := by (intro k hk; simp only [List.mem_cons, List.not_mem_nil, or_false] at hk; first | (subst hk; rfl) | (rcases hk with rfl | rfl <;> rfl) | (rcases hk with rfl | rfl | rfl <;> rfl))) : Od P pf rf (fun e S => EA P pf rf Kp lp wp rest e S K) Kp lp wp [] S e' S' := ⟨hk, h⟩
theorem Iu {op : Op} (h : EA P pf rf Kp lp wp rest e' S' K) (hk : Ig Kp op e = true := by rfl) : Oc P pf rf (fun e S => EA P pf rf Kp lp wp rest e S K) Kp lp wp op [] e e' S' := ⟨hk, h⟩
theorem Jx (h : K e S) : EA P pf rf Kp lp wp [] e S K := h
end
section
variable {N0 : Nat} {B : (AX → Af → Ae → Prop) → Af → Ae → Prop} {Q : AX → Af → Ae → Prop} {e : Af} {S : Ae}
theorem Ol (N0 : Nat) (I : Nat → Af → Ae → Prop) : Jj N0 I 0 = fun _ _ => False := by
 funext e S
 exact propext ⟨fun ⟨n, _, _, h, _⟩ => absurd h (Nat.not_lt_zero n), False.elim⟩
theorem FR (h : B (Cb Q fun _ _ => False) e S) : HQ N0 B Q e S :=
 ⟨fun n e' S' => n = 0 ∧ e' = e ∧ S' = S, ⟨0, e, S, Ay.refl N0 e S, rfl, rfl, rfl⟩, fun n e' S' ⟨h1, h2, h3⟩ => by
  subst h1 h2 h3;rw [Ol];exact h⟩
theorem Jr (h : ∀ K : Af → Ae → Prop, (∀ e S, B (Cb Q fun _ _ => False) e S → K e S) → B (Cb Q K) e S) : HQ N0 B Q e S :=
 ⟨fun n e' S' => (n = 1 ∧ e' = e ∧ S' = S) ∨ (n = 0 ∧ B (Cb Q fun _ _ => False) e' S'), ⟨1, e, S, Ay.refl N0 e S, .inl ⟨rfl, rfl, rfl⟩⟩, fun n e' S' hI => by
  rcases hI with ⟨h1, h2, h3⟩ | ⟨h1, h2⟩
  ·subst h1 h2 h3
   exact h _ fun e2 S2 h2 => ⟨0, e2, S2, by omega, Ay.refl N0 e2 S2, .inr ⟨rfl, h2⟩⟩
  ·subst h1
   rw [Ol];exact h2⟩
end
section
variable {P : Program} {N N0 : Nat} {Q : AX → Af → Ae → Prop} {e : Af} {S : Ae}
theorem Ye {n : Nat} {ρ : Nat → Nat} {o : SObj} (h : o.ok n = true) (hρ : ∀ i, i < n → ρ i = i) : o.ren ρ = o := by
 cases o with
 | cells cs =>
  have : cs.map (AV.r1 ρ) = cs := EJ (p := AV.o1 n) h fun v hv => Cv hv hρ
  show SObj.cells _ = _
  rw [this]
 | row cs e sz =>
  have : cs.map (AV.r1 ρ) = cs := EJ (p := AV.o1 n) h fun v hv => Cv hv hρ
  show SObj.row _ _ _ = _
  rw [this]
 | map es =>
  have h := List.all_eq_true.1 h;show SObj.map _ = SObj.map es
  congr 1
  rw [List.map_congr_left (g := id) fun p hp => ?_, List.map_id]
  have := h p hp;simp only [Bool.and_eq_true] at this;show (p.1.r1 ρ, p.2.r2 ρ) = p
  rw [Cv this.1 hρ, Dm this.2 hρ]
 | loop b D fn es ps asn bdy st =>
  have : es.map (AV.ren ρ) = es := EJ (p := AV.ok n) h fun v hv => D4 hv hρ
  show SObj.loop _ _ _ _ _ _ _ _ = _
  rw [this]
 | _ => rfl
theorem Ay.wkCell (N0 : Nat) {e : Af} {S : Ae} (l : Nat) {cs : List AV} (hS : S[l]? = some (.cells cs)) : Ay N0 e S e (S.set l (.cells (cs.map AV.wk1))) := by
 rintro N w0 g0 a w hn ⟨h1, h2, g, h3, h4, h5⟩
 have hlS := (List.getElem?_eq_some_iff.1 hS).1
 refine ⟨h1, h2, g, ⟨by rw [List.length_set]; exact h3.nid, fun k o hk => ?_, h3.disj, h3.lt, h3.tab⟩, h4, h5⟩
 by_cases hkl : k = l
 ·subst hkl
  rw [List.getElem?_set_self hlS] at hk
  cases hk
  obtain ⟨k1, k2, k3, arr, T, fr, k4, k5, k6, k7, k8⟩ := h3.obj k _ hS;refine ⟨k1, k2, k3, arr, T, fr, k4, k5, by rw [List.length_map]; exact k6, k7, fun j u v hu hv => ?_⟩
  rw [List.getElem?_map] at hu
  obtain ⟨u0, hu0, rfl⟩ := Option.map_eq_some_iff.1 hu;exact (k8 j u0 v hu0 hv).wk1
 ·rw [List.getElem?_set_ne (Ne.symm hkl)] at hk
  exact h3.obj k o hk
theorem Fin.all {P : Program} {rs : List ResultVar} {v : AV} {e e1 : Af} {S S1 S' : Ae} {vs : List AV} {N0 : Nat} (hw : Ay N0 e S e1 S1) (h : Cg P rs e1 S1 = some vs) (hS : S1.take S'.length = S') (hN : N0 ≤ S'.length) (hok : S'.all (SObj.ok S'.length) = true) (hk : v.ok S'.length = true) (hv : (Cu vs).wk = v) : Fin P rs N0 v S' e S := by
 have hid : ∀ i, i < S'.length → AA (List.range S'.length) i = i := fun i hi => by
  simp [AA, hi]
 refine ⟨e1, S1, vs, List.range S'.length, hw, h, ⟨List.nodup_range, by simp, fun i o hi => ?_⟩, by rw [List.take_range, Nat.min_eq_left hN], by rw [List.length_range]; exact hk, .inr (by rw [D4 hk (fun i hi => hid i hi)]; exact hv)⟩
 have hlt := (List.getElem?_eq_some_iff.1 hi).1
 have ho : o.ok S'.length = true := List.all_eq_true.1 hok o (List.mem_of_getElem? hi);rw [List.length_range, hid i hlt];refine ⟨ho, ?_⟩
 have h1 : o.ren (AA (List.range S'.length)) = o := Ye ho hid;have h2 : (S1.take S'.length)[i]? = S1[i]? := List.getElem?_take_of_lt hlt
 rw [h1, ← hi, ← h2, hS]
theorem Ua {P : Program} {rs : List ResultVar} {v : AV} {e : Af} {S S' : Ae} {vs : List AV} {N0 : Nat} (hok : S'.all (SObj.ok S'.length) = true) (h : Cg P rs e S = some vs := by rfl) (hS : S.take S'.length = S' := by rfl) (hN : N0 ≤ S'.length := by exact Nat.le_of_ble_eq_true rfl) (hk : v.ok S'.length = true := by rfl) (hv : (Cu vs).wk = v := by rfl) : CO P rs N0 v S' .ret e S := Fin.all (Ay.refl N0 e S) h hS hN hok hk hv
theorem ZcL {P : Program} {rs : List ResultVar} {v : AV} {e : Af} {S S' : Ae} {vs : List AV} {N0 : Nat} (hok : S'.all (SObj.ok S'.length) = true) (h : Cg P rs e S = some vs := by rfl) (hS : S.take S'.length = S' := by rfl) (hN : N0 ≤ S'.length := by exact Nat.le_of_ble_eq_true rfl) (hk : v.ok S'.length = true := by rfl) (hv : (Cu vs).wk = v := by rfl) : CO P rs N0 v S' .norm e S := Fin.all (Ay.refl N0 e S) h hS hN hok hk hv
theorem ZcK (l : Nat) {P : Program} {rs : List ResultVar} {v : AV} {e : Af} {S S' : Ae} {vs cs : List AV} {N0 : Nat} (hok : S'.all (SObj.ok S'.length) = true) (hl : S[l]? = some (.cells cs) := by rfl) (h : Cg P rs e (S.set l (.cells (cs.map AV.wk1))) = some vs := by rfl) (hS : (S.set l (.cells (cs.map AV.wk1))).take S'.length = S' := by rfl) (hN : N0 ≤ S'.length := by exact Nat.le_of_ble_eq_true rfl) (hk : v.ok S'.length = true := by rfl) (hv : (Cu vs).wk = v := by rfl) : CO P rs N0 v S' .norm e S := Fin.all (Ay.wkCell N0 l hl) h hS hN hok hk hv
theorem HW.loop1 {c : Code} (h : ∀ K : Af → Ae → Prop, (∀ e S, HW P N N0 c (Cb Q fun _ _ => False) e S → K e S) → HW P N N0 c (Cb Q K) e S) : HW P N N0 (.loop c) Q e S :=
 HW.loop (fun n e' S' => (n = 1 ∧ e' = e ∧ S' = S) ∨ (n = 0 ∧ HW P N N0 c (Cb Q fun _ _ => False) e' S')) 1 e S (Ay.refl N0 e S) (.inl ⟨rfl, rfl, rfl⟩) fun n e' S' hI => by
  rcases hI with ⟨h1, h2, h3⟩ | ⟨h1, h2⟩
  ·subst h1 h2 h3
   exact h _ fun e2 S2 h2 => ⟨0, e2, S2, by omega, Ay.refl N0 e2 S2, .inr ⟨rfl, h2⟩⟩
  ·subst h1
   rw [Ol];exact h2
end
section
variable {P : Program} {f : FuncId} {xs : List AV} {v : AV} {o o' : SObj} {T : Ae}
theorem NW {v : AV} (h : v.ok 0 = true) (g : Nat → Nat) : v.ren g = v := D4 h fun i hi => absurd hi (Nat.not_lt_zero _)
theorem AC.last1 (h : AC P f (xs ++ [.ptr 0 0]) [o] v [o']) (l : Nat) (hT : T[l]? = some o) (hxs : xs.all (AV.ok 0) = true := by rfl) (hv : v.ok 0 = true := by rfl) (ho : o.ok 0 = true := by rfl) (ho' : o'.ok 0 = true := by rfl) : AC P f (xs ++ [.ptr l 0]) T v (T.set l o') := by
 have hx1 : xs.all (AV.ok 1) = true := List.all_eq_true.2 fun x hx => E2 (List.all_eq_true.1 hxs x hx) (Nat.zero_le 1)
 have h1 : (xs ++ [AV.ptr 0 0]).all (AV.ok 1) = true := by rw [List.all_append, hx1]; rfl
 have := h.at1 (T := T) l (by rw [I7 ho]; exact hT) h1 (E2 hv (Nat.zero_le 1)) (I9 ho) (I9 ho')
 rw [List.map_append, EJ hxs (fun v hv => NW hv _), NW hv, I7 ho'] at this
 exact this
theorem AC.keepl (h : AC P f (xs ++ [.ptr 0 0]) [o] v [o]) (l : Nat) (hT : T[l]? = some o) (hxs : xs.all (AV.ok 0) = true := by rfl) (hv : v.ok 0 = true := by rfl) (ho : o.ok 0 = true := by rfl) : AC P f (xs ++ [.ptr l 0]) T v T := by
 have := h.last1 (T := T) l hT hxs hv ho ho;rwa [Oe hT] at this
theorem cl {pf rf : List FuncId} {e : Af} {d : Option Nat} {rest : List AO} {K : Af → Ae → Prop} {gargs : List AV} (l : Nat) (h : AC P f (xs ++ [.ptr 0 0]) [o] v [o]) (h' : Bi P pf rf rest (put e d v) T K)
  (hT : T[l]? = some o := by rfl) (hg : gargs.map AV.wk = xs ++ [.ptr l 0] := by rfl) (hxs : xs.all (AV.ok 0) = true := by rfl) (hv : v.ok 0 = true := by rfl) (ho : o.ok 0 = true := by rfl) :
  Du (JN P f gargs T) (FJ P pf rf d rest e K) :=
 BZ (show AC P f (gargs.map AV.wk) T v T by rw [hg]; exact h.keepl l hT hxs hv ho) h'
theorem U0 {pf rf : List FuncId} {e : Af} {d : Option Nat} {rest : List AO} {K : Af → Ae → Prop} {args gargs : List AV} (l : Nat) (h : AC P f args [o] v [o]) (h' : Bi P pf rf rest (put e d v) T K)
  (hT : T[l]? = some o := by rfl) (hg : gargs.map AV.wk = args.map (AV.ren (AA [l])) := by rfl) (ha : args.all (AV.ok 1) = true := by rfl) (hv : v.ok 0 = true := by rfl) (ho : o.ok 0 = true := by rfl) :
  Du (JN P f gargs T) (FJ P pf rf d rest e K) :=
 BZ (show AC P f (gargs.map AV.wk) T v T by
  have := h.at1 (T := T) l (by rw [I7 ho]; exact hT) ha (E2 hv (Nat.zero_le 1)) (I9 ho) (I9 ho)
  rwa [NW hv, I7 ho, ← hg, Oe hT] at this) h'
end
end Pe
end
section
namespace Pe
open _root_.Go.Proofs.Tryz
open Go Go.RowKit Co Sg Ac It Sl Tp
set_option maxRecDepth 100000
set_option maxHeartbeats 8000000
theorem ZeC (it : It.Item) (id : By) (h : (it.act.author == id) = true) (hk : (it.kind == 0) = true) : AC prog 186 [AN it, .ptr 0 0] [.cells [.st id]] (.tup [As it.act, .it .i64 it.act.seq, .bo true]) [.cells [.st id]] := by
 refine AC.hw 21 func186 rfl (by decide) (Nat.le_of_ble_eq_true rfl) rfl ?_
 refine HW.seq (HW.aw [] [] (by decide) (by kernel_rfl) ?_)
 refine An ?_
 refine run ?_;refine HW.seq (HW.spec [] [] [0, 1] [7, 10, 12, 17, 18] [] (by decide) (by decide +kernel) (by decide +kernel) ?_)
 refine An ?_
 repeat (refine g4 (by rfl) ?_; (first | refine CS ?_ | refine a4 ?_); refine runf4 (an @h @hk) ?_; (first | refine Iv ?_ | refine Iu ?_))
 refine Jx ?_
 refine HW.aw [] [] (by decide) (by kernel_rfl) ?_
 refine An ?_
 refine run ?_;exact Uc
theorem Zbw (x : AV) (F : FuncId) : AC prog 335 [.sl .ro [x], .it .i64 0, .it .i64 1, .fn (.func F) [] []] [] (.tup []) [] := by
 refine AC.enter4 [180] [] [(6, ([], [1000000], []))] [] func335 rfl (by decide) (by decide) (Nat.le_of_ble_eq_true rfl) (by kernel_rfl) ?_; refine F8 ?_
 refine run4 ?_
 refine FR ?_
 refine run4 ?_
 exact Ab
theorem Yb (x : AV) (F : FuncId) : AC prog 318 [.sl .ro [x], .it .i64 1, .fn (.func F) [] []] [] (.tup []) [] := by
 have k := Zbw x F;refine Ai [335] [] func318 ?_;refine run ?_;refine FR ?_
 refine run ?_;refine cp k ?_;refine run ?_;refine FR ?_
 refine run ?_;exact Ab
theorem Yk (x : AV) (F : FuncId) (hx : Ax 22 [x] = true) : AC prog 275 [.sl .ro [x], .fn (.func F) [] []] [] (.tup []) [] := by
 have k := Yb x F;refine Ai [318] [] func275 ?_;refine run ?_;refine cp k ?_;refine run ?_;exact Ab
abbrev Zb7 (a : Ac.Act) (d : By) : AV := .agg [.it .i64 a.seq, .st d, .st a.author, .it .i64 a.seq, .st a.prev, .it .i64 a.kind, .it .i64 a.time, .st a.object, .st a.target, .it .i64 a.scope, .st a.group, At a.to, .st a.text, .st a.body.nonce, .st a.body.data, .st a.body.tag, .it .i64 a.epoch, .sl .ro (a.wraps.map Ba), .it .i64 a.n, .it .i64 a.m, .it .i64 a.sig.e, .it .i64 a.sig.s]
theorem Zab (ps : List Int) (a : Ac.Act) (id : By) (ha : Ac.right a = true) (hid : a.author = id) (hps : ∀ p ∈ ps, -9223372036854775808 ≤ p ∧ p ≤ 9223372036854775807) :
  AC prog 185 [BN ps [a], .fn (.func 186) [] [.ptr 0 0]] [.cells [.st id]] (BO [a]) [.cells [.st id]] := by
 have hs := Dg ps ha;have iza := DE hs.1;have k1 := ZeC (Av a) id (by rw [← hid]; exact beq_self_eq_true _) rfl
 have k2 := Gi (Av a) iza;have k3 := Nd (Av a) iza;rw [hs.1] at k2;generalize It.digest (Av a) = d at *;have k4' := Yk (Zb7 a d) 276 rfl;show AC _ _ [.agg [Bn ps, .sl .ro [AN (Av a)]], _] _ (.sl .ro [As a]) _
 refine Ai [51, 23, 275] [] func185 ?_;refine run ?_;refine Jr fun K hK => ?_
 refine run ?_;refine cl (xs := [AN (Av a)]) 0 k1 ?_;refine run ?_;refine cp k2 ?_;refine run ?_;refine cp k3 ?_;refine run ?_;refine hK _ _ ?_
 refine run ?_;refine cp k4' ?_;refine run ?_;refine Jr fun K hK => ?_
 refine run ?_;refine hK _ _ ?_
 refine run ?_;exact Ub
theorem ZeA (ps : List Int) (a : Ac.Act) (id : By) (ha : Ac.right a = true) (hid : a.author = id) (hps : ∀ p ∈ ps, -9223372036854775808 ≤ p ∧ p ≤ 9223372036854775807) :
  AC prog 110 [BN ps [a], .st id] [] (BO [a]) [] := by
 have k := Zab ps a id ha hid hps;refine Ai [] [] func110 ?_;refine run ?_;refine U0 1 k ?_;refine run ?_;exact Am
theorem ZdH (it : It.Item) (id : By) (hk : (it.kind == 1) = false) : AC prog 322 [AN it, .ptr 0 0] [.cells [.st id]] (.tup [JD it.claim, .it .i64 0, .bo false]) [.cells [.st id]] := by
 refine AC.hw 18 func322 rfl (by decide) (Nat.le_of_ble_eq_true rfl) rfl ?_
 refine HW.seq (HW.aw [] [] (by decide) (by kernel_rfl) ?_)
 refine An ?_
 refine run ?_;refine HW.seq (HW.spec [] [] [0, 1] [7, 9, 14, 15] [] (by decide) (by decide +kernel) (by decide +kernel) ?_)
 refine An ?_
 repeat (refine g4 (by rfl) ?_; (first | refine CS ?_ | refine a4 ?_); refine runf4 @hk ?_; (first | refine Iv ?_ | refine Iu ?_))
 repeat (refine ZbZ (by rfl) ?_)
 repeat (refine g4 (by rfl) ?_; (first | refine CS ?_ | refine a4 ?_); refine runf4 @hk ?_; (first | refine Iv ?_ | refine Iu ?_))
 refine Jx ?_
 refine HW.aw [] [] (by decide) (by kernel_rfl) ?_
 refine An ?_
 refine run ?_;exact Uc
theorem Zbv (F : FuncId) : AC prog 361 [.sl .ro [], .it .i64 0, .it .i64 0, .fn (.func F) [] []] [] (.tup []) [] := by
 refine AC.enter4 [180] [] [(6, ([], [1000000], []))] [] func361 rfl (by decide) (by decide) (Nat.le_of_ble_eq_true rfl) (by kernel_rfl) ?_; refine F8 ?_
 refine run4 ?_
 refine FR ?_
 refine run4 ?_
 exact Ab
theorem Ya (F : FuncId) : AC prog 346 [.sl .ro [], .it .i64 0, .fn (.func F) [] []] [] (.tup []) [] := by
 have k := Zbv F;refine Ai [361] [] func346 ?_;refine run ?_;refine FR ?_
 refine run ?_;refine cp k ?_;refine run ?_;refine FR ?_
 refine run ?_;exact Ab
theorem Yj (F : FuncId) : AC prog 337 [.sl .ro [], .fn (.func F) [] []] [] (.tup []) [] := by
 have k := Ya F;refine Ai [346] [] func337 ?_;refine run ?_;refine cp k ?_;refine run ?_;exact Ab
theorem Zaa (ps : List Int) (a : Ac.Act) (id : By) :
  AC prog 321 [BN ps [a], .fn (.func 322) [] [.ptr 0 0]] [.cells [.st id]] (.sl .ro []) [.cells [.st id]] := by
 have k1 := ZdH (Av a) id rfl;have k4' := Yj 338;show AC _ _ [.agg [Bn ps, .sl .ro [AN (Av a)]], _] _ (.sl .ro []) _
 refine Ai [51, 23, 337] [] func321 ?_;refine run ?_;refine Jr fun K hK => ?_
 refine run ?_;refine cl (xs := [AN (Av a)]) 0 k1 ?_;refine run ?_;refine hK _ _ ?_
 refine run ?_;refine cp k4' ?_;refine run ?_;refine FR ?_
 refine run ?_;exact Ub
theorem ZdG (ps : List Int) (a : Ac.Act) (id : By) : AC prog 283 [BN ps [a], .st id] [] (.sl .ro []) [] := by
 have k := Zaa ps a id;refine Ai [] [] func283 ?_;refine run ?_;refine U0 1 k ?_;refine run ?_;exact Am
theorem ZP : AC prog 282 [.it .i64 4] [] (.it .i64 3) [] := by
 refine Ai [] [] func282 ?_;refine run ?_;exact Ab
theorem Xu (ps : List Int) (a : Ac.Act) (id : By) (gen : Int) (hps : ps.length = 4) : AC prog 189 [BN ps [a], .st id, .it .i64 gen] [] (.tup [JD C5, .bo false]) [] := by
 have k1 := ZP;have k2 := ZdG ps a id;refine Ai [282, 283, 191, 23, 284] [] func189 ?_;refine Aa @hps ?_;refine cp k1 ?_;refine Aa @hps ?_;refine cp k2 ?_;refine run ?_;refine FR ?_
 refine run ?_;exact Ab
end Pe
end
section
namespace Pe
open _root_.Go.Proofs.Tryz
open Go Go.RowKit Co Sg Ac It Sl Tp
set_option maxRecDepth 100000
set_option maxHeartbeats 4000000
abbrev Ep (n : Int) (s : By) : Value := .agg #[.int .i64 n, .string ⟨s.toArray⟩]
abbrev Er (n : Int) (s : By) : AV := .agg [.it .i64 n, .st s]
theorem KO {w : World} {g : Gh} {n : Int} {s : By} {cv : Value} (h : Rel w g (Er n s) cv) : cv = Ep n s := by
 cases h with
 | agg _ _ arr hn h1 hr =>
  have hs : arr.size = 2 := by simpa using hn
  have e0 := hr 0 (.it .i64 n) arr[0] rfl (Array.getElem?_eq_getElem (by omega))
  have e1 := hr 1 (.st s) arr[1] rfl (Array.getElem?_eq_getElem (by omega))
  have f0 : arr[0] = .int .i64 n := by
   generalize arr[0] = x at e0;cases e0
   rfl
  have f1 : arr[1] = .string ⟨s.toArray⟩ := by
   generalize arr[1] = x at e1;cases e1
   rfl
  congr 1
  apply Array.ext
  ·simpa using hs
  ·intro i hi hi'
   have : i = 0 ∨ i = 1 := by simp at hi'; omega
   rcases this with rfl | rfl
   ·exact f0
   ·exact f1
theorem OB {w : World} {g : Gh} (n : Int) (s : By) : Rel w g (Er n s) (Ep n s) := by
 refine .agg _ _ _ rfl ?_ ?_
 ·intro v hv
  simp at hv
  rcases hv with rfl | rfl <;> rfl
 ·intro j u v hu hv
  match j, hu, hv with
  | 0, hu, hv => cases hu; cases hv; exact .it _ _ _
  | 1, hu, hv => cases hu; cases hv; exact .st _ _
theorem RZ {P : Program} {t : TypeId} (ha : ∀ w, (isAgg t).run P w = .ok false w) {cs : Array Value} {o : Nat} {v : Value} (hv : cs[o]? = some v) (w : World) : (part t cs o).run P w = .ok v w := by
 unfold part;simp [Sem.run_bind, ha, hv]
theorem MA (w : World) (b : Bool) (n : Int) (s : By) : (Instr.checkKey b 10000 161 (Ep n s)).run prog w = .ok () w := by
 have h1 : ∀ w, (Instr.checkKey b 9999 3 (.int .i64 n)).run prog w = .ok () w := fun w => Go.MapKept.run_checkKey (d := .int .i64) underlying3 (show Go.MapKept.IsKey (.int .i64) (.int .i64 n) from rfl) b 9998
 have h2 : ∀ w, (Instr.checkKey b 9999 9 (.string ⟨s.toArray⟩)).run prog w = .ok () w := fun w => Go.MapKept.run_checkKey (d := .string) underlying9 (show Go.MapKept.IsKey .string (.string ⟨s.toArray⟩) from trivial) b 9998
 have p1 : ∀ w, (part 3 #[.int .i64 n, .string ⟨s.toArray⟩] 0).run prog w = .ok (.int .i64 n) w := fun w => RZ (fun w => by simp [Tryz.isAgg3]) rfl w
 have p2 : ∀ w, (part 9 #[.int .i64 n, .string ⟨s.toArray⟩] 1).run prog w = .ok (.string ⟨s.toArray⟩) w := fun w => RZ (fun w => by simp [Tryz.isAgg9]) rfl w
 unfold Instr.checkKey;simp [run_underlying underlying161, Sem.run_bind, Result.andThen, h1, h2, p1, p2]
theorem Z6 (w : World) (n m : Int) (s t : By) : (Op.equal 161 (Ep n s) (Ep m t)).run prog w = .ok (n == m && s == t) w := by
 have h : ER prog 3 161 (Er n s) (Er m t) = some (n == m && s == t) := by
  simp [ER, F6, apart, Kw, Kv, Ki, J9, J5, J4, J3, J2, J1, J0, Ku, Ks, Kr, Kq, Ko, Kn, Km, Kl, Kk, Kj, Kh, Kg, Kf, Ke, Kc, Ka, J8, J7, J6]
 exact P9 (P := prog) (w := w) (g := ⟨fun _ => 0, fun _ => 0, fun _ _ => False, 0, fun _ => false, fun _ => 0, fun _ => 0⟩) 9997 3 161 _ _ _ _ _ h (OB n s) (OB m t)
theorem Z5 (w : World) (n : Int) (s : By) : (Instr.findKey 161 (Ep n s) []).run prog w = .ok none w := by
 simp [Instr.findKey, run_underlying underlying161, Instr.findNow, Result.andThen]
theorem OC (w : World) (n m : Int) (s t : By) (v : Value) (b : Nat) : (Instr.findKey 161 (Ep n s) [⟨Ep m t, v, b⟩]).run prog w = .ok (if (n == m && s == t) = true then some (0, v) else none) w := by
 simp [Instr.findKey, run_underlying underlying161, Instr.findNow, Instr.sameNow, Instr.findAsking, Result.andThen, Z6]
 split <;> rfl
def XE : World → Nat → (Nat → Prop) → Prop := fun w b _ => w.heap[b]? = some (.map #[] 0)
def X1 : World → Nat → (Nat → Prop) → Prop := fun w b _ => w.heap[b]? = some (.map #[⟨Ep 0 [], .slice none 0 0, 0⟩] 1)
theorem Zc1 {o : Oper} {e : Af} {S : Ae} {t : TypeId} {P : Program} (ho : o.op = .makeMap t none) : AE P o e S (.mp S.length) (S ++ [.ext XE]) :=
 Cp fun ρ w g hw hr => by
  have hrun : (Instr.makeMap t none).run P w = .ok (.map (some w.heap.size)) (w.alloc (.map #[] 0)) := run_makeMap t w;have hn := hw.nid;obtain ⟨h1, h2⟩ := hw.alloc_push (.map #[] 0) false 0 0 0 (o := .ext XE) (by
   refine ⟨by simp [Gh.push], by simp [Gh.push], fun b hb => ?_, fun w' hw' => ?_⟩
   ·have : b = w.heap.size := by simpa [Gh.push] using hb
    subst this;simp [Gh.push]
   ·show w'.heap[_]? = _
    rw [hw' _ (by simp [Gh.push])]
    simp only [Gh.push, if_true];exact heap_alloc_new w _)
  refine ⟨.map (some w.heap.size), _, _, ?_, h1, ?_, h2⟩
  ·unfold execOp
   simp only [ho, Option.map_none, Sem.run_bind, hrun, Result.andThen_ok, Sem.run_pure]
  ·have := Rel.mp (w := w.alloc (.map #[] 0)) (g.push w.heap.size false 0 0 0) S.length (by simp only [Gh.push]; omega) (by simp [Gh.push, hn])
   have e : (g.push w.heap.size false 0 0 0).pl S.length = w.heap.size := by simp [Gh.push, hn]
   rw [e] at this;exact this
theorem Zdb {o : Oper} {e : Af} {S : Ae} {m k : Operand} {l : Nat} (ho : o.op = .mapEntry 155 m k) (hm : ev e m = .mp l) (hk : ev e k = Er 0 []) (hS : S[l]? = some (.ext XE)) :
  AE prog o e S (.tup [.sl .full [], .it .i64 0]) (S.set l (.ext X1)) :=
 Cp fun ρ w g hw hr => by
  have hrm := hr m (by rw [ho]; simp [Op.operands])
  have hrk := hr k (by rw [ho]; simp [Op.operands])
  rw [hm] at hrm;rw [hk] at hrk;have hkc := KO hrk;generalize hcm : ρ m = cm at hrm;cases hrm with
  | mp _ _ hl hb =>
   obtain ⟨hbf, hown, hG, hX⟩ := hw.obj l _ hS;have hheap : w.heap[g.pl l]? = some (.map #[] 0) := hX w (fun _ _ => rfl)
   have hplt : g.pl l < w.heap.size := (Array.getElem?_eq_some_iff.1 hheap).1
   have hlS := (List.getElem?_eq_some_iff.1 hS).1
   obtain ⟨q1, q2⟩ := hw.put (o := .ext X1) (ob := .map #[⟨Ep 0 [], .slice none 0 0, 0⟩] 1) hlS hown (hG _ hown) ⟨hbf, hown, hG, fun w' hw' => by
    show w'.heap[_]? = _
    rw [hw' _ hown];simp [hplt]⟩
   refine ⟨.tuple #[.slice none 0 0, .int .i64 0], _, g, ?_, q1, ?_, q2⟩
   ·unfold execOp
    simp only [ho, hcm, hkc];simp [Instr.mapEntry, run_underlying underlying155, Go.MapKept.run_getObj_map hheap, MA, Z5, Go.MapKept.run_setObj_map _ hheap, goInt]
   ·refine .tup _ _ _ rfl fun j u v hu hv => ?_
    match j, hu, hv with
    | 0, hu, hv => cases hu; cases hv; exact .sl _ .full [] none 0 0 (fun _ => undef) (Nat.le_refl _) (Nat.zero_le _) (by simp) (fun h => absurd h (Nat.lt_irrefl 0)) (by simp [Ak]) (by simp [Ak]) rfl
    | 1, hu, hv => cases hu; cases hv; exact .it _ _ _
theorem Zdc {o : Oper} {e : Af} {S : Ae} {t : TypeId} {m s x : Operand} {l : Nat} {v : AV} (ho : o.op = .entryStore t m s x) (hm : ev e m = .mp l) (hs : ev e s = .it .i64 0) (hx : ev e x = v) (hS : S[l]? = some (.ext X1)) :
  AE prog o e S .junk (S.set l (.map [(Er 0 [], v)])) :=
 PK fun ρ w g hw hr => by
  have hrm := hr m (by rw [ho]; simp [Op.operands])
  have hrs := hr s (by rw [ho]; simp [Op.operands])
  have hrx := hr x (by rw [ho]; simp [Op.operands])
  rw [hm] at hrm;rw [hs] at hrs;rw [hx] at hrx;generalize hcm : ρ m = cm at hrm;generalize hcs : ρ s = cs at hrs;generalize hcx : ρ x = cx at hrx;cases hrs
  cases hrm with
  | mp _ _ hl hb =>
   obtain ⟨hbf, hown, hG, hX⟩ := hw.obj l _ hS;have hheap : w.heap[g.pl l]? = some (.map #[⟨Ep 0 [], .slice none 0 0, 0⟩] 1) := hX w (fun _ _ => rfl)
   have hplt : g.pl l < w.heap.size := (Array.getElem?_eq_some_iff.1 hheap).1
   have hlS := (List.getElem?_eq_some_iff.1 hS).1
   have hle := Le.setObj (w := w) (hG _ hown) (.map #[⟨Ep 0 [], cx, 0⟩] 1);obtain ⟨q1, q2⟩ := hw.put (o := .map [(Er 0 [], v)]) (ob := .map #[⟨Ep 0 [], cx, 0⟩] 1) hlS hown (hG _ hown) ⟨hbf, hown, hG _ hown, _, _, by simp [hplt]; exact ⟨rfl, rfl⟩, rfl, by simp, by simp, fun j u y hu hy => by
    match j, hu, hy with
    | 0, hu, hy => cases hu; cases hy; exact ⟨OB 0 [], hrx.le hle⟩⟩
   refine ⟨_, g, ?_, q1, q2⟩
   unfold execOp;simp only [ho, hcm, hcs, hcx];simp [Instr.entryStore, Go.MapKept.run_getObj_map hheap, Go.MapKept.run_setObj_map _ hheap, asInt, asIntOf]
theorem Zc4 {o : Oper} {e : Af} {S : Ae} {m k : Operand} {l : Nat} {n : Int} {s : By} {es : List AV} {md : Mode} (ho : o.op = .lookup 155 m k false) (hm : ev e m = .mp l) (hk : ev e k = Er n s) (hS : S[l]? = some (.map [(Er 0 [], .sl md es)])) :
  AE prog o e S (if (n == 0 && s == []) = true then .sl md es else .sl .full []) S :=
 Cp fun ρ w g hw hr => by
  have hrm := hr m (by rw [ho]; simp [Op.operands])
  have hrk := hr k (by rw [ho]; simp [Op.operands])
  rw [hm] at hrm;rw [hk] at hrk;have hkc := KO hrk;generalize hcm : ρ m = cm at hrm;cases hrm with
  | mp _ _ hl hb =>
   obtain ⟨hbf, hown, hG, me, clock, hheap, hsz, hlt, hnd, hrel⟩ := hw.obj l _ hS;have hs1 : me.size = 1 := hsz;obtain ⟨y, hy⟩ : ∃ y, me = #[y] := ⟨me[0], by
    apply Array.ext
    ·simpa using hs1
    ·intro i h1 h2
     have : i = 0 := by omega
     subst this;rfl⟩
   subst hy;obtain ⟨r1, r2⟩ := hrel 0 _ y rfl rfl;have hyk := KO r1;obtain ⟨yk, yv, yb⟩ := y;simp only at hyk r2
   subst hyk;have hnil : Rel w g (.sl .full []) (.slice none 0 0) := .sl _ .full [] none 0 0 (fun _ => undef) (Nat.le_refl _) (Nat.zero_le _) (by simp) (fun h => absurd h (Nat.lt_irrefl 0)) (by simp [Ak]) (by simp [Ak]) rfl
   cases hb : (n == 0 && s == []) with
   | true =>
    refine ⟨yv, w, g, ?_, hw, by rw [if_pos rfl]; exact r2, Evo.refl w g⟩
    unfold execOp;simp only [ho, hcm, hkc];simp [Instr.lookup, run_underlying underlying155, Go.MapKept.run_getObj_map hheap, MA, OC]
    rw [if_pos (by simpa using hb)]
    simp
   | false =>
    refine ⟨.slice none 0 0, w, g, ?_, hw, by rw [if_neg (by decide)]; exact hnil, Evo.refl w g⟩
    unfold execOp;simp only [ho, hcm, hkc];simp [Instr.lookup, run_underlying underlying155, Go.MapKept.run_getObj_map hheap, MA, OC]
    rw [if_neg (by simpa using hb)]
    simp []
end Pe
end
section
namespace Pe
open _root_.Go.Proofs.Tryz
open Go Go.RowKit Co Sg Ac It Sl Tp
set_option maxRecDepth 100000
set_option maxHeartbeats 8000000
def XM : World → Nat → (Nat → Prop) → Prop := fun w b _ => ∃ (cx : Value) (bn c : Nat), w.heap[b]? = some (.map #[⟨Ep 0 [], cx, bn⟩] c)
theorem Ay.mapX (N0 : Nat) {e : Af} {S : Ae} (l : Nat) {v : AV} (hS : S[l]? = some (.map [(Er 0 [], v)])) : Ay N0 e S e (S.set l (.ext XM)) := by
 rintro N w0 g0 a w hn ⟨h1, h2, g, h3, h4, h5⟩
 have hlS := (List.getElem?_eq_some_iff.1 hS).1
 obtain ⟨hbf, hown, hG, me, clock, hheap, hsz, hlt, hnd, hrel⟩ := h3.obj l _ hS;have hs1 : me.size = 1 := hsz;obtain ⟨y, hy⟩ : ∃ y, me = #[y] := ⟨me[0], by
  apply Array.ext
  ·simpa using hs1
  ·intro i h1 h2
   have : i = 0 := by omega
   subst this;rfl⟩
 subst hy;obtain ⟨r1, r2⟩ := hrel 0 _ y rfl rfl;have hyk := KO r1;obtain ⟨yk, yv, yb⟩ := y;simp only at hyk r2
 subst hyk;let g' : Gh := { g with own := fun k b => g.own k b ∧ (k = l → b = g.pl l) }
 have hle : Le w g w g' := ⟨fun _ _ _ _ h => h, fun _ _ _ h _ => h, Nat.le_refl _, fun _ _ => ⟨rfl, .inl ⟨rfl, rfl, rfl⟩⟩, fun _ _ _ h h' => ⟨h, h'⟩⟩
 refine ⟨h1, h2, g', h3.touch hlS hle rfl (fun k hk _ => ⟨rfl, rfl, rfl, rfl, by funext b; simp [g', hk]⟩) (fun b hb => .inl hb.1) (Nat.le_refl _) (fun _ _ _ => rfl) (fun _ _ _ => rfl) ?_, fun t => (h4 t).le hle, h5.trans ⟨hle, rfl, rfl, rfl, Nat.le_refl _, fun _ _ _ => rfl, fun k b hk hb _ => ⟨hk, hb.1⟩, fun _ _ _ => rfl⟩⟩
 exact ⟨hbf, ⟨hown, fun _ => rfl⟩, fun b hb => by rw [hb.2 rfl]; exact hG, fun w' hw' => ⟨yv, yb, clock, by rw [hw' _ ⟨hown, fun _ => rfl⟩]; exact hheap⟩⟩
theorem Zc6 {o : Oper} {e : Af} {S : Ae} {m k : Operand} {l : Nat} {n : Int} {s : By} (ho : o.op = .lookup 155 m k false) (hm : ev e m = .mp l) (hk : ev e k = Er n s) (hS : S[l]? = some (.ext XM)) (hf : (n == 0 && s == []) = false) :
  AE prog o e S (.sl .full []) S :=
 Cp fun ρ w g hw hr => by
  have hrm := hr m (by rw [ho]; simp [Op.operands])
  have hrk := hr k (by rw [ho]; simp [Op.operands])
  rw [hm] at hrm;rw [hk] at hrk;have hkc := KO hrk;generalize hcm : ρ m = cm at hrm;cases hrm with
  | mp _ _ hl hb =>
   obtain ⟨hbf, hown, hG, hX⟩ := hw.obj l _ hS;obtain ⟨yv, yb, c, hheap⟩ := hX w (fun _ _ => rfl)
   have hnil : Rel w g (.sl .full []) (.slice none 0 0) := .sl _ .full [] none 0 0 (fun _ => undef) (Nat.le_refl _) (Nat.zero_le _) (by simp) (fun h => absurd h (Nat.lt_irrefl 0)) (by simp [Ak]) (by simp [Ak]) rfl
   refine ⟨.slice none 0 0, w, g, ?_, hw, hnil, Evo.refl w g⟩
   unfold execOp;simp only [ho, hcm, hkc];simp [Instr.lookup, run_underlying underlying155, Go.MapKept.run_getObj_map hheap, MA, OC]
   rw [if_neg (by simpa using hf)]
   simp []
theorem Zc5 {o : Oper} {e : Af} {S : Ae} {m k : Operand} {l : Nat} {es : List AV} {md : Mode} (ho : o.op = .lookup 155 m k false) (hm : ev e m = .mp l) (hk : ev e k = Er 0 []) (hS : S[l]? = some (.map [(Er 0 [], .sl md es)])) :
  AE prog o e S (.sl md es) S := by
 have := Zc4 ho hm hk hS;rwa [if_pos (by decide)] at this
abbrev Ha (ps : List Int) (a : Ac.Act) (id : By) (acts keys : AV) (prev : By) (won : Bool) : SObj :=
 .cells [Bn ps, .sl .ro [AH a], .st id, acts, keys, .st prev, .it .i64 0, .bo false, .mp 2, .mp 3, .st [], .it .i64 0, .st [], .it .i64 0, .it .i64 0, .it .i64 0, .it .i64 0, .it .i64 0, .it .i64 0, .bo won]
theorem Zez (ps : List Int) (a : Ac.Act) (id : By) (o0 o1 m2 c5 c6 c7 c8 c9 : SObj) (ha : Ac.right a = true) (hk : (a.kind == 18) = false)
  (h0 : o0.ok 10 = true) (h1 : o1.ok 10 = true) (h2 : m2.ok 10 = true) (h5 : c5.ok 10 = true) (h6 : c6.ok 10 = true) (h7 : c7.ok 10 = true) (h8 : c8.ok 10 = true) (h9 : c9.ok 10 = true) :
  AC prog 113 [.ptr 4 0, As a] [o0, o1, m2, .map [], Ha ps a id (.sl .full []) (.sl .full [Bd ⟨0, a.n, a.m⟩]) [] false, c5, c6, c7, c8, c9] (.tup [])
   [o0, o1, m2, .map [(.st (dg a), .it .i64 0)], Ha ps a id (.sl .ro [As a]) (.sl .ro [Bd ⟨0, a.n, a.m⟩]) (dg a) false, c5, c6, c7, c8, c9] := by
 have iza := DE (Dg ps ha).1;have k1 := R8 a (by have := (C0 ha).to.1; omega) (by have := (C0 ha).wraps.1; omega)
 have k2 := Nd (Av a) iza;change AC _ _ _ _ (.st (dg a)) _ at k2;generalize dg a = d at *;refine Ai [20, 23] [] func113 ?_;refine run ?_;refine cp k1 ?_;refine run ?_;refine cp k2 ?_;refine Aa @hk ?_;refine ZcK 4 ?_;simp only [List.all_cons, List.all_nil, List.length_cons, List.length_nil, Nat.reduceAdd, h0, h1, h2, h5, h6, h7, h8, h9];rfl
theorem ZaW (ps : List Int) (a : Ac.Act) (id : By) (d : By) (o0 o1 m2 m3 c5 c6 c7 c8 c9 : SObj) (hps : ps.length = 4)
  (h0 : o0.ok 10 = true) (h1 : o1.ok 10 = true) (h2 : m2.ok 10 = true) (h3 : m3.ok 10 = true) (h5 : c5.ok 10 = true) (h6 : c6.ok 10 = true) (h7 : c7.ok 10 = true) (h8 : c8.ok 10 = true) (h9 : c9.ok 10 = true) :
  AC prog 114 [.ptr 4 0] [o0, o1, m2, m3, Ha ps a id (.sl .ro [As a]) (.sl .ro [Bd ⟨0, a.n, a.m⟩]) d false, c5, c6, c7, c8, c9] (.tup [])
   [o0, o1, m2, m3, Ha ps a id (.sl .ro [As a]) (.sl .ro [Bd ⟨0, a.n, a.m⟩]) d false, c5, c6, c7, c8, c9] := by
 have k1 := Xu ps a id 0 hps;refine Ai [189] [] func114 ?_;refine run ?_;refine cp k1 ?_;refine run ?_;refine ZcL ?_;simp only [List.all_cons, List.all_nil, List.length_cons, List.length_nil, Nat.reduceAdd, h0, h1, h2, h3, h5, h6, h7, h8, h9];rfl
theorem ZI (ps : List Int) (a : Ac.Act) (id : By) (d : By) (o0 o1 m2 m3 c5 c6 c7 c8 c9 : SObj)
  (h0 : o0.ok 10 = true) (h1 : o1.ok 10 = true) (h2 : m2.ok 10 = true) (h3 : m3.ok 10 = true) (h5 : c5.ok 10 = true) (h6 : c6.ok 10 = true) (h7 : c7.ok 10 = true) (h8 : c8.ok 10 = true) (h9 : c9.ok 10 = true) :
  AC prog 115 [.ptr 4 0] [o0, o1, m2, m3, Ha ps a id (.sl .ro [As a]) (.sl .ro [Bd ⟨0, a.n, a.m⟩]) d false, c5, c6, c7, c8, c9] (.bo false)
   [o0, o1, m2, m3, Ha ps a id (.sl .ro [As a]) (.sl .ro [Bd ⟨0, a.n, a.m⟩]) d false, c5, c6, c7, c8, c9] := by
 refine Ai [190, 191, 23] [] func115 ?_;refine run ?_;refine Ua ?_
 simp only [List.all_cons, List.all_nil, List.length_cons, List.length_nil, Nat.reduceAdd, h0, h1, h2, h3, h5, h6, h7, h8, h9];rfl
theorem Zdy (ps : List Int) (a : Ac.Act) (id : By) (d : By) (o0 o1 m3 c5 c6 c7 c8 c9 : SObj)
  (h0 : o0.ok 10 = true) (h1 : o1.ok 10 = true) (h3 : m3.ok 10 = true) (h5 : c5.ok 10 = true) (h6 : c6.ok 10 = true) (h7 : c7.ok 10 = true) (h8 : c8.ok 10 = true) (h9 : c9.ok 10 = true) :
  AC prog 116 [.ptr 4 0] [o0, o1, .ext XM, m3, Ha ps a id (.sl .ro [As a]) (.sl .ro [Bd ⟨0, a.n, a.m⟩]) d false, c5, c6, c7, c8, c9] (.bo false)
   [o0, o1, .ext XM, m3, Ha ps a id (.sl .ro [As a]) (.sl .ro [Bd ⟨0, a.n, a.m⟩]) d false, c5, c6, c7, c8, c9] := by
 have hxm : (SObj.ext XM).ok 10 = true := rfl;have hm1 : (((1 : Nat) : Int) - 1) = 0 := rfl;refine AC.hw 76 func116 rfl (by decide) (Nat.le_of_ble_eq_true rfl) rfl ?_
 refine HW.seq (HW.aw [] [] (by decide) (by kernel_rfl) ?_)
 refine An ?_
 refine run ?_;refine HW.seq (HW.aw (P := prog) [] [] (by decide) (by kernel_rfl) ?_)
 refine An ?_
 refine run ?_;refine HW.seq (HW.aw (P := prog) [] [] (by decide) (by kernel_rfl) ?_)
 refine An ?_
 refine Aa @hm1 ?_;refine HW.seq (HW.aw (P := prog) [] [] (by decide) (by kernel_rfl) ?_)
 refine An ?_
 refine run ?_;refine HW.seq (HW.aw (P := prog) [] [] (by decide) (by kernel_rfl) ?_)
 refine An ?_
 refine run ?_;refine HW.seq (HW.seq (HW.spec4 (P := prog) [] [] [0] [] [] (by decide) (by decide +kernel) (by decide +kernel) ?_))
 refine JT [_, _, _] [_, _, _, _, _, _, _, _, _, _, _, _, _, _] _ _ (HS (pf := []) (rf := []) [_, _, _, _, _, _, _, _, _, _, _, _, _, _] _ _ ?_)
 refine An ?_
 repeat (refine g4 (by rfl) ?_; (first | refine CS ?_ | refine a4 ?_); refine runf4 @hm1 ?_; (first | refine Iv ?_ | refine Iu ?_))
 refine Jx ?_
 refine Xr (fun R => Zc6 (n := 1) (s := d) rfl (by rfl) (by rfl) (by rfl) (by simp)) ?_
 refine HS (pf := []) (rf := []) [_, _] _ _ ?_
 refine An ?_
 repeat (refine g4 (by rfl) ?_; (first | refine CS ?_ | refine a4 ?_); refine runf4 @hm1 ?_; (first | refine Iv ?_ | refine Iu ?_))
 refine Jx ?_
 refine HW.aw (P := prog) [193, 112] [] (by decide) (by kernel_rfl) ?_
 refine An ?_
 refine run ?_;refine FR ?_
 refine run ?_;refine HW.aw (P := prog) [] [] (by decide) (by kernel_rfl) ?_
 refine An ?_
 refine run ?_;refine Ua ?_
 simp only [List.all_cons, List.all_nil, List.length_cons, List.length_nil, Nat.reduceAdd, h0, h1, hxm, h3, h5, h6, h7, h8, h9];rfl
end Pe
end
section
namespace Pe
open _root_.Go.Proofs.Tryz
open Go Go.RowKit Co Sg Ac It Sl Tp
set_option maxRecDepth 100000
set_option maxHeartbeats 8000000
theorem ZdN (ps : List Int) (a : Ac.Act) (id : By) (hps : ps.length = 4) (hpr : ∀ p ∈ ps, -9223372036854775808 ≤ p ∧ p ≤ 9223372036854775807) (ha : Ac.right a = true) (hid : a.author = id) (hk : a.kind = 0) (hs : a.seq = 0) (hp : a.prev = []) (hn : CT a.n) (hi : CA a.n = id) (hv : C7 a.n a = true) :
  AC prog 58 [BN ps [a], .st id] [] (BH ⟨id, [a], [⟨0, a.n, a.m⟩], dg a, 0, false⟩) [] := by
 have k1 := ZeA ps a id ha hid hpr;have k2 := ZbF a.n hn;have k3 := XF a.n a (DE (Dg ps ha).1).act hn;rw [hv] at k3;rw [hi] at k2;have hk0 : (a.kind == 0) = true := by rw [hk]; rfl
 have hk18 : (a.kind == 18) = false := by rw [hk]; rfl
 have hidd : (id == id) = true := beq_self_eq_true _;have hap : AV.agg [AV.it .i64 a.seq, .st a.prev] = Er 0 [] := by rw [hs, hp]
 refine AC.hw 121 func58 rfl (by decide) (Nat.le_of_ble_eq_true rfl) rfl ?_
 refine HW.seq (HW.aw (P := prog) [] [] (by decide) (by kernel_rfl) ?_)
 refine An ?_
 refine run ?_;refine HW.seq (HW.reg (P := prog) [] [] (by kernel_rfl) ?_)
 refine JS [_, _, _, _, _] [_, _, _] _ _ (EU (pf := []) (rf := []) [_, _, _] _ _ ?_)
 refine An ?_
 refine run ?_;refine ⟨_, _, ⟨⟨_, rfl⟩, Zc1 rfl⟩, ?_⟩
 refine EU (pf := []) (rf := []) [_, _, _, _] _ _ ?_
 refine An ?_
 refine run ?_;refine HW.seq (HW.seq (HW.aw (P := prog) [110] [] (by decide) (by kernel_rfl) ?_))
 refine An ?_
 refine run ?_;refine cp k1 ?_;refine run ?_;refine HW.block (HW.loop1 fun K hK => ?_)
 refine HW.seq (HW.aw (P := prog) [] [] (by decide) (by kernel_rfl) ?_)
 refine An ?_
 refine run ?_;refine HW.seq (HW.aw (P := prog) [] [] (by decide) (by kernel_rfl) ?_)
 refine An ?_
 refine run ?_;refine HW.seq (HW.block (HW.seq (HW.aw (P := prog) [] [] (by decide) (by kernel_rfl) ?_)))
 refine An ?_
 refine run ?_;refine HW.seq (HW.aw (P := prog) [] [] (by decide) (by kernel_rfl) ?_)
 refine An ?_
 refine run ?_;refine HW.spec4 (P := prog) [] [] [5] [38] [] (by decide) (by decide +kernel) (by decide +kernel) ?_
 refine JT [_, _, _, _, _] [_, _, _, _, _, _, _] _ _ (HS (pf := []) (rf := []) [_, _, _, _, _, _, _] _ _ ?_)
 refine An ?_
 repeat (refine g4 (by rfl) ?_; (first | refine CS ?_ | refine a4 ?_); refine runf4 @hk0 ?_; (first | refine Iv ?_ | refine Iu ?_))
 refine Jx ?_
 refine QG (Zdb rfl (by rfl) hap (by rfl)) ?_ ?_
 ·intro k hk
  simp only [List.mem_cons, List.not_mem_nil, or_false] at hk;subst hk;rfl
 refine JT [_] [_, _, _] _ _ (HS (pf := []) (rf := []) [_, _, _] _ _ ?_)
 refine An ?_
 repeat (refine g4 (by rfl) ?_; (first | refine CS ?_ | refine a4 ?_); refine runf4 @hk0 ?_; (first | refine Iv ?_ | refine Iu ?_))
 refine Jx ?_
 refine QG (Zdc rfl (by rfl) (by rfl) (by rfl) (by rfl)) ?_ ?_
 ·intro k hk
  simp only [List.mem_cons, List.not_mem_nil, or_false] at hk;subst hk;rfl
 refine HW.aw (P := prog) [] [] (by decide) (by kernel_rfl) ?_
 refine An ?_
 refine run ?_;refine hK _ _ ?_
 refine HW.seq (HW.aw (P := prog) [] [] (by decide) (by kernel_rfl) ?_)
 refine An ?_
 refine run ?_;refine HW.seq (HW.aw (P := prog) [] [] (by decide) (by kernel_rfl) ?_)
 refine An ?_
 refine run ?_;refine HW.seq (HW.aw (P := prog) [] [] (by decide) (by kernel_rfl) ?_)
 refine An ?_
 refine run ?_;refine HW.seq (HW.seq (HW.reg (P := prog) [] [] (by kernel_rfl) ?_))
 refine JS [_, _, _] [_, _, _, _, _] _ _ (EU (pf := []) (rf := []) [_, _, _, _, _] _ _ ?_)
 refine An ?_
 refine run ?_;refine ⟨_, _, ⟨rfl, fun R => Zc5 rfl (by rfl) (by rfl) (by rfl)⟩, ?_⟩
 refine EU (pf := []) (rf := []) [_, _] _ _ ?_
 refine An ?_
 refine run ?_;refine HW.aw (P := prog) [111, 112] [] (by decide) (by kernel_rfl) ?_
 refine An ?_
 refine run ?_;refine Jr fun K hK => ?_
 refine Aa @hk0 ?_;refine cp k2 ?_;refine Aa @hidd ?_;refine cp k3 ?_;refine run ?_;refine hK _ _ ?_
 refine run ?_;refine HW.seq (HW.aw (P := prog) [] [] (by decide) (by kernel_rfl) ?_)
 refine An ?_
 refine run ?_;refine HW.weak (Ay.mapX 0 2 rfl) ?_
 simp only [List.set_cons_succ, List.set_cons_zero];refine HW.aw (P := prog) [] [] (by decide) (by kernel_rfl) ?_
 refine An ?_
 refine run ?_;refine BZ (Zez ps a id _ _ _ _ _ _ _ _ ha hk18 (by rfl) (by rfl) (by rfl) (by rfl) (by rfl) (by rfl) (by rfl) (by rfl)) ?_
 refine run ?_;refine BZ (ZaW ps a id (dg a) _ _ _ _ _ _ _ _ _ hps (by rfl) (by rfl) (by rfl) (by rfl) (by rfl) (by rfl) (by rfl) (by rfl) (by rfl)) ?_
 refine run ?_;refine FR ?_
 refine run ?_;refine BZ (ZI ps a id (dg a) _ _ _ _ _ _ _ _ _ (by rfl) (by rfl) (by rfl) (by rfl) (by rfl) (by rfl) (by rfl) (by rfl) (by rfl)) ?_
 refine run ?_;refine BZ (Zdy ps a id (dg a) _ _ _ _ _ _ _ _ (by rfl) (by rfl) (by rfl) (by rfl) (by rfl) (by rfl) (by rfl) (by rfl)) ?_
 refine run ?_;exact Am
theorem ZdO (ps : List Int) (a : Ac.Act) (hps : ps.length = 4) (hpr : ∀ p ∈ ps, -9223372036854775808 ≤ p ∧ p ≤ 9223372036854775807) (ha : Ac.right a = true) (hk : a.kind = 0) (hs : a.seq = 0) (hp : a.prev = []) (hn : CT a.n) (hi : CA a.n = a.author) (hv : C7 a.n a = true) :
  AC prog 21 [BN ps [a]] [] (.sl .ro [BH ⟨a.author, [a], [⟨0, a.n, a.m⟩], dg a, 0, false⟩]) [] := by
 have k1 := Yi a.author;have k2 := Zdz a.author;have k3 := ZdN ps a a.author hps hpr ha rfl hk hs hp hn hi hv;have q0 : ((Av a).kind == 0) = true := rfl;have qa : (Av a).act.author = a.author := rfl;change AC _ _ _ _ (.agg [.st a.author, .sl .ro [As a], .sl .ro [Bd ⟨0, a.n, a.m⟩], .st (dg a), .it .i64 0, .bo false]) _ at k3;show AC _ _ [.agg [Bn ps, .sl .ro [AN (Av a)]]] _ (.sl .ro [.agg [.st a.author, .sl .ro [As a], .sl .ro [Bd ⟨0, a.n, a.m⟩], .st (dg a), .it .i64 0, .bo false]]) _
 refine Ai [56, 57, 58] [] func21 ?_;refine run ?_;refine Jr fun K hK => ?_
 refine Aa (an @q0 @qa) ?_;refine hK _ _ ?_
 refine run ?_;refine cp k1 ?_;refine run ?_;refine cp k2 ?_;refine run ?_;refine Jr fun K hK => ?_
 refine run ?_;refine cp k3 ?_;refine run ?_;refine hK _ _ ?_
 refine run ?_;exact Am
theorem YC {k : Key} (h : k.right = true) : 0 ≤ k.pub ∧ k.pub ≤ 2305843009213693950 := by
 obtain ⟨h1, h2, h3⟩ := Key.right_iff.1 h;have := Zzr 37 k.secret.toNat;rw [h3];omega
theorem Vz : Ac.right (Hg 1 0 0) = true := by decide +kernel
theorem Yn : AC prog 4 [] [] (.bo true) [] := by
 have hkr := O4 ([97, 99, 116, 111, 114, 32] ++ DH (AZ 1 4).toNat ++ [32] ++ DH 0);have hver : C7 (Br 1 0).pub (BC 1 0 0) = true := Yr (a := Hg 1 0 0) (k := Br 1 0) Vz hkr;have hra : Ac.right (BC 1 0 0) = true := by
  unfold C7 at hver;rw [Bool.and_eq_true] at hver;exact hver.1
 have hsg : BC 1 0 0 = { Hg 1 0 0 with sig := CX (Br 1 0) (AM (Hg 1 0 0)) } := by
  show BI (Br 1 0) (Hg 1 0 0) = _
  unfold BI;simp only
  rw [if_pos (by rw [Bool.and_eq_true]; exact ⟨Vz, hkr⟩)]
  rfl
 have hn : (BC 1 0 0).n = (Br 1 0).pub := by rw [hsg]; rfl
 have hau : (BC 1 0 0).author = B9 1 := by rw [hsg]; rfl
 have hk : (BC 1 0 0).kind = 0 := by rw [hsg]; rfl
 have hs : (BC 1 0 0).seq = 0 := by rw [hsg]; rfl
 have hp : (BC 1 0 0).prev = [] := by rw [hsg]; rfl
 have hid : CA (BC 1 0 0).n = (BC 1 0 0).author := by rw [hn, hau]; rfl
 have hin : CT (BC 1 0 0).n := by have := (ND 1 0).2.2; rw [hn]; exact ⟨by omega, by omega⟩
 have k1 := PW 1 0 0 (by decide)
 have k2 := NY;have k3 := ZaA CI (by decide)
 have hpr : ∀ p ∈ CI, -9223372036854775808 ≤ p ∧ p ≤ 9223372036854775807 := by
  have hk : ∀ n, -9223372036854775808 ≤ (Bc n).pub ∧ (Bc n).pub ≤ 9223372036854775807 := fun n => by
   have h := YC (L6 n);omega
  intro p hp;unfold CI at hp;simp only [List.mem_cons, List.not_mem_nil, or_false] at hp;rcases hp with rfl | rfl | rfl | rfl <;> exact hk _
 have k4' := Zet CI hpr hra;have k5 := ZdO CI (BC 1 0 0) rfl hpr hra hk hs hp hin hid (by rw [hn]; exact hver)
 have k6 := JJ 1 (by decide)
 rw [← hau] at k6;have k7 := R8 (BC 1 0 0) (by have := (C0 hra).to.1; omega) (by have := (C0 hra).wraps.1; omega)
 have k8 := Nd (Av (BC 1 0 0)) (DE (Dg [] hra).1);change AC _ _ _ _ (.st (dg (BC 1 0 0))) _ at k8;clear hver hsg hn hau hk hs hp hid hin hpr hra;generalize BC 1 0 0 = a at *;generalize CI = ps at *;have q1 : (dg a == dg a) = true := beq_self_eq_true _;have q2 : (a.author == a.author) = true := beq_self_eq_true _;generalize dg a = d at *;refine Ai [17, 13, 19, 20, 18, 21, 22, 23] [] func4 ?_;refine run ?_;refine cp k1 ?_;refine run ?_;refine cp k2 ?_;refine run ?_;refine cp k3 ?_;refine run ?_;refine cp k7 ?_;refine run ?_;refine cp k4' ?_;refine run ?_;refine cp k5 ?_;refine run ?_;refine cp k6 ?_;refine Aa @q2 ?_;refine cp k7 ?_;refine run ?_;refine cp k8 ?_;refine Aa @q1 ?_;exact Ab
end Pe
end
section
namespace Pe
open _root_.Go.Proofs.Tryz
open Go Go.RowKit Co Sg Ac It Sl Tp
set_option maxRecDepth 100000
set_option maxHeartbeats 4000000
theorem Yw {n us} (h : Cj prog 140737488351232 (n + 2) 86 us) : ∃ w : Wish, us = (DI w).cells ∧ Wi w := by
 have h := Yx underlying86 h;obtain ⟨a0, b0, rfl, h0, h⟩ := h;obtain ⟨a1, b1, rfl, h1, h⟩ := h;obtain ⟨a2, b2, rfl, h2, h⟩ := h;obtain ⟨a3, b3, rfl, h3, h⟩ := h;obtain ⟨a4, b4, rfl, h4, h⟩ := h;obtain ⟨a5, b5, rfl, h5, rfl⟩ := h;obtain ⟨i0, rfl, w0⟩ := KA underlying3 h0;obtain ⟨i1, rfl, w1⟩ := KA underlying3 h1;obtain ⟨i2, rfl, w2⟩ := KA underlying3 h2;obtain ⟨i3, rfl, w3⟩ := KA underlying3 h3;obtain ⟨t, rfl, _⟩ := Yy underlying9 h4;obtain ⟨i5, rfl, w5⟩ := KA underlying3 h5;exact ⟨⟨i0, i1, i2, i3, t, i5⟩, rfl, w0, w1, w2, w3, w5⟩
theorem shp_wishes {n us} (h : Cj prog 140737488351232 (n + 3) 22 us) : ∃ l : List Wish, us = [.sl .ro (l.map DI)] ∧ l.length ≤ 140737488351232 ∧ ∀ w ∈ l, Wi w :=
 Yz DI Wi underlying22 h fun x hx => by
  obtain ⟨a, rfl, ha⟩ := Yw hx;exact ⟨a, by rw [show GC prog 86 = true from by kernel_rfl]; rfl, ha⟩
theorem topSingleY_c (ws : List Wish) (m n : Int) (hlw : ws.length ≤ 140737488351232 ∧ ∀ w ∈ ws, Wi w) (hm : CT m) (hn : CT n) :
  AC prog 3 [.sl .ro (ws.map DI), .it .i64 m, .it .i64 n] [] (.bo true) [] :=
 XK Yn ws m n (by omega) hlw.2 hm hn
end Pe
end
section
section
open Go Go.RowKit Go.WideShapes Go.ChangeShapes
section
variable {H : Type} {enc : TypeId × Value → H} {P : Program}
theorem Z1 {f : Func} {s : ChangeSpec} {apart fresh handsOn again : Bool} {W W' : World} {args : Array Value} {v : Value} {ds gs : List (DataW H)} {before pa pv : List MemPlace}
  (hW : DataW.Whole enc P f.params.toList s.vars apart W args.toList ds gs before)
  (hres : ∀ (b : Nat) (sp : Nat → Bool) (hd : Bool), DataW.TrodAll enc P W' b sp hd f.resultTypes.toList (v.resultList f.resultTypes.size) (s.fn H (ds ++ gs)).results [])
  (hargs : ∀ sp : Nat → Bool, (∀ p ∈ before, sp p.block = true) → DataW.TrodAll enc P W' 0 sp true f.params.toList args.toList (s.fn H (ds ++ gs)).args pa)
  (hvars : ∀ sp : Nat → Bool, (∀ p ∈ before, sp p.block = true) → DataW.TrodVars enc P W' sp s.vars (s.fn H (ds ++ gs)).vars pv)
  (hps : before = pa ++ pv) (hb : Below W.heap.size W W')
  (hok : ∀ (j : Nat) (t : TypeId) (r : Value), f.resultTypes[j]? = some t → (v.resultList f.resultTypes.size)[j]? = some r → Value.okWide P W' .any 0 t r) :
  s.post enc P f apart fresh handsOn again W args v W' := by
 have hlt : ∀ p ∈ before, p.block < W.heap.size := fun p hp => hW.lt p hp
 have hold : ∀ p ∈ before, (fun b => decide (b < W.heap.size)) p.block = true := fun p hp => by simpa using hlt p hp
 refine ⟨ds, gs, before, [], pa, pv, hW, hres _ _ _, hargs _ hold, hvars _ hold, World.keptBut_mono (fun p hp => ⟨hp, ?_⟩) (hb.frame (· ∈ before)), fun _ => ?_⟩
 ·rw [hps, List.mem_append] at hp
  exact Or.inr hp
 ·obtain ⟨_, _, _, _, _, hz, hn⟩ := hW
  refine ⟨hok, _, _, ([] ++ pa) ++ pv, ⟨[] ++ pa, pv, trodAll_append (hargs _ (fun _ _ => rfl)) (hres _ _ _), hvars _ (fun _ _ => rfl), rfl, ?_, ?_⟩, ?_⟩
  ·intro b off hp
   have hin : MemPlace.cell b off ∈ before := by rw [hps]; simpa using hp
   rw [hb.frozen (hlt _ hin)];exact hz b off hin
  ·intro ha
   have := hn ha;rw [hps] at this;simpa using this
  ·intro p hp _
   rw [hps];simpa using hp
end
end
end
section
section
open Go Go.RowKit Sm
theorem own : ownKnob Tryz.prog.godebug = none := by kernel_rfl
theorem gK : Tryz.prog.globalNamed "agora/sum.constants" = some 1 := by kernel_rfl
theorem gI : Tryz.prog.globalNamed "agora/sum.initial" = some 0 := by kernel_rfl
theorem ZbX : (Tryz.prog.globals[1]?).map (·.type) = some 231 := by kernel_rfl
theorem ZbY : (Tryz.prog.globals[0]?).map (·.type) = some 173 := by kernel_rfl
theorem ZdS : Tryz.prog.cellsOf 231 = 64 := by kernel_rfl
theorem ZdT : Tryz.prog.cellsOf 173 = 8 := by kernel_rfl
theorem U5 : Tryz.prog.cellsOf 172 = 1 := by kernel_rfl
def NK : List Int := [1116352408, 1899447441, 3049323471, 3921009573, 961987163, 1508970993, 2453635748, 2870763221, 3624381080, 310598401, 607225278, 1426881987, 1925078388, 2162078206, 2614888103, 3248222580, 3835390401, 4022224774, 264347078, 604807628, 770255983, 1249150122, 1555081692, 1996064986, 2554220882, 2821834349, 2952996808, 3210313671, 3336571891, 3584528711, 113926993, 338241895, 666307205, 773529912, 1294757372, 1396182291, 1695183700, 1986661051, 2177026350, 2456956037, 2730485921, 2820302411, 3259730800, 3345764771, 3516065817, 3600352804, 4094571909, 275423344, 430227734, 506948616, 659060556, 883997877, 958139571, 1322822218, 1537002063, 1747873779, 1955562222, 2024104815, 2227730452, 2361852424, 2428436474, 2756734187, 3204031479, 3329325298]
def NL : List Int := [1779033703, 3144134277, 1013904242, 2773480762, 1359893119, 2600822924, 528734635, 1541459225]
theorem Xc : NK = Ej.map (fun x => (x.toNat : Int)) := by decide +kernel
theorem Xd : NL = BA.list.map (fun x => (x.toNat : Int)) := by decide +kernel
theorem QH (l : List (BitVec 32)) (i : Nat) (hi : i < l.length) : Value.int .u32 ((l.map (fun x => (x.toNat : Int))).getD i 0) = Ah (l.getD i 0) := by
 simp only [List.getD_eq_getElem?_getD, List.getElem?_map, List.getElem?_eq_getElem hi]
 rfl
def Zba : List (String × DataW Unit) := [("agora/sum.constants", Rows.laid_agora_sum_constants), ("agora/sum.initial", Rows.laid_agora_sum_initial)]
theorem XZ {W : World} (h : laidMetH Tryz.prog Zba W) : C6 W := by
 have h1 : laidMet Tryz.prog (("agora/sum.constants", Lib.tabData .u32 NK) :: [("agora/sum.initial", Lib.tabData .u32 NL)]) W := h;have k1 := Lib.tabIs_of_head gK ZbX Tryz.underlying231 Tryz.underlying172 U5 ZdS h1;have k2 := Lib.tabIs_of_head gI ZbY Tryz.underlying173 Tryz.underlying172 U5 ZdT (laidMet.tail h1);refine ⟨fun i hi => ?_, fun i hi => ?_⟩
 ·rw [k1.cell gK i hi, Xc, QH Ej i hi]
 ·rw [k2.cell gI i hi, Xd, QH BA.list i hi]
def QI (cs : Array Value) : Obj → Obj
 | .cells _ t frozen => .cells cs t frozen
 | o => o
noncomputable def O3 (os : Os) : World :=
 { World.holding Tryz.prog os ⟨#[], #[], []⟩ with heap := ((World.holding Tryz.prog os ⟨#[], #[], []⟩).heap.modify 1 (QI (NK.map (Value.int .u32)).toArray)).modify 0 (QI (NL.map (Value.int .u32)).toArray) }
theorem X0 {W : World} (h : C6 W) : ∀ b i v, (Pe.tabs).T b i = some v → W.cell? ⟨b, i, none⟩ = some v := by
 intro b i v hv;have hv' : (if b = 1 ∧ i < 64 then some (Ah (Ej.getD i 0)) else if b = 0 ∧ i < 8 then some (Ah (BA.list.getD i 0)) else none) = some v := hv
 split at hv'
 ·rename_i hc
  obtain ⟨rfl, hi⟩ := hc;rw [h.1 i hi]; exact hv'
 ·split at hv'
  ·rename_i hc
   obtain ⟨rfl, hi⟩ := hc;rw [h.2 i hi]; exact hv'
  ·cases hv'
theorem Za9 : laidOutB Tryz.prog = true := by kernel_rfl
end
end
section
namespace topSingle
open _root_.Go.Proofs.Tryz
open Go Go.RowKit Go.ChangeShapes Go.WideShapes Go.ChangeAt
open Go.ChangeMaps (setBlock shut_map_nil open_string shut_string keptBut_setBlock frozen?_setBlock heap_setBlock_same)
set_option maxRecDepth 100000
theorem contract (H : Type) (enc : TypeId × Value → H) (W : World) (base : Nat) (args : Array Value) (ds gs : List (DataW H)) (before : List MemPlace)
  (hval : ∀ (j : Nat) t v, f3.params[j]? = some t → args[j]? = some v → Value.okWide prog W .any base t v)
  (hW : DataW.Whole enc prog f3.params.toList Rows.topSingleSpec.vars false W args.toList ds gs before) (hR : (DataW.weightsEach prog (f3.params.toList ++ []) (ds ++ gs)).all (· ≤ reachBytes) = true) (hL : laidMetH prog Rows.topSingleRow.laid W) :
  Calls prog 3 args W fun e W' => ∃ v, e = .returned v ∧ Rows.topSingleSpec.post enc prog f3 false true false false W args v W' := by
 have hW' := hW;obtain ⟨p, q, hA0, hV, rfl, hfz, hnd⟩ := hW;have hA : DataW.TrodAll enc prog W 0 (fun _ => true) true f3.params.toList args.toList ds p := hA0
 rw [Tryz.params3] at hA hval hR;obtain ⟨v0, vs0, d0, ds0, p0, q0, hargs, rfl, rfl, h0, r0⟩ := trodAll_cons hA;obtain ⟨v1, vs1, d1, ds1, p1, q1, rfl, rfl, rfl, h1, r1⟩ := trodAll_cons r0;obtain ⟨v2, vs2, d2, ds2, p2, q2, rfl, rfl, rfl, h2, r2⟩ := trodAll_cons r1;obtain ⟨rfl, rfl, rfl⟩ := trodAll_nil r2;obtain rfl : args = #[v0, v1, v2] := by cases args; simp_all
 obtain ⟨rfl, rfl⟩ := trodVars_none hV;obtain ⟨A0, ln0, cp0, rfl⟩ := okWide_slice underlying22 (hval 0 22 v0 rfl rfl);obtain ⟨us0, hs0, hr0⟩ := Pe.open_cell (B := 140737488351232) (n := 11) (by kernel_rfl) rfl h0 (Pe.weights_of hR (j := 0) rfl rfl)
 obtain ⟨x0, rfl, hx0⟩ := Pe.shp_wishes hs0;have hr0 := hr0 _ rfl;obtain ⟨x1, rfl, rfl, rfl, wf1⟩ := open_int underlying3 (hval 1 3 v1 rfl rfl) h1;have wx1 := bounds_i64 wf1;obtain ⟨x2, rfl, rfl, rfl, wf2⟩ := open_int underlying3 (hval 2 3 v2 rfl rfl) h2;have wx2 := bounds_i64 wf2;clear hA0;have hlt : ∀ x ∈ (p0 ++ ([] ++ ([] ++ []))), x.block < W.heap.size := fun x hx => hW'.lt x (by simpa using hx)
 refine (Pe.law_run (Pe.topSingleY_c x0 x1 x2 hx0 wx1 wx2) (X0 (XZ hL)) (Pe.lrelL (hr0) (Pe.lrelL (.it _ _ _) (Pe.lrelL (.it _ _ _) (Pe.lrel0))))).mono fun e W' ⟨he, hg⟩ => ?_
 subst he;exact ⟨_, rfl, Z1 (pa := (p0 ++ ([] ++ ([] ++ [])))) (pv := []) hW' (fun _ _ _ => trodAll_cons_mk (shut_bool underlying4 _) trodAll_mk0)
  (fun sp hsp => ⟨p0, ([] ++ ([] ++ [])), WideElems.Trod_stays (t := 22) Za9 (by kernel_rfl) (by decide +kernel) h0 (fun x hx => hg.same (hlt x (by simp [hx]))) (fun x hx => hsp x (by simp [hx])), ⟨[], ([] ++ []), shut_int underlying3 wf1, ⟨[], [], shut_int underlying3 wf2, rfl, rfl⟩, rfl⟩, rfl⟩) (fun _ _ => rfl) (by simp)
  hg (ok_one (by kernel_rfl) rfl (okWide_bool_mk underlying4 _))⟩
end topSingle
end
section
namespace topSingle
open _root_.Go.Proofs.Tryz
open Go Go.RowKit Go.ChangeShapes Go.WideShapes Go.ChangeAt
open Go.ChangeMaps (setBlock shut_map_nil open_string shut_string keptBut_setBlock frozen?_setBlock heap_setBlock_same)
set_option maxRecDepth 100000
theorem Za8 (os : Os) : laidMet prog Rows.topSingleRow.laid ((O3 os).forCall (fun _ _ => 0) ⟨#[], #[.slice none 0 0, .int .i64 0, .int .i64 0], []⟩).memory :=
 laidMet_of_run' 8 (by kernel_rfl) (by kernel_rfl)
theorem ZJ (os : Os) {H : Type} (enc : TypeId × Value → H) : ∃ places, DataW.whole enc prog ((O3 os).forCall (fun _ _ => 0) ⟨#[], #[.slice none 0 0, .int .i64 0, .int .i64 0], []⟩).memory f3.params.toList Rows.topSingleSpec.vars false #[Value.slice none 0 0, Value.int .i64 0, Value.int .i64 0].toList 8 = some ([.nil, .lit (.int .i64 0), .lit (.int .i64 0)], [], places) :=
 ⟨[], by kernel_rfl⟩
theorem lifted (os : Os) (started : os.Started) (H : Type) (enc : TypeId × Value → H) (F : Stop.Interp) :
  ReturnsInHanded {} Tryz.checked os 3 .any ((OpenSpec.ofChange Rows.topSingleSpec).preRow enc prog f3 Rows.topSingleRow.domain false Rows.topSingleRow.laid) (((OpenSpec.ofChange Rows.topSingleSpec).at F).post enc prog f3 false true false false) := by
 obtain ⟨places, hx⟩ := ZJ os enc;refine returnsInHanded_of_row (C := Tryz.checked) (s := OpenSpec.ofChange Rows.topSingleSpec) own started (by kernel_rfl) func3
  (witness_row_at (enc := enc) (C := Tryz.checked) false (O3 os) #[.slice none 0 0, .int .i64 0, .int .i64 0] rfl (by kernel_rfl) (by kernel_rfl) (by kernel_rfl)
   (OpenSpec.preRow_of_cond 8 hx (by kernel_rfl) (fun k hk => by cases hk) (by kernel_rfl) (Za8 os))) ?_
 intro W base args ds gs before hval hW _ _ hR hL _ _;exact contract H enc W base args ds gs before hval hW hR hL
end topSingle
end
section
namespace topSingle
open _root_.Go.Proofs.Tryz
open Go Go.RowKit Go.ChangeShapes Go.WideShapes Go.ChangeAt
open Go.ChangeMaps (setBlock shut_map_nil open_string shut_string keptBut_setBlock frozen?_setBlock heap_setBlock_same)
set_option maxRecDepth 100000
set_option maxHeartbeats 4000000
theorem said : Rows.TopSingleSaid :=
 OpenClaim.holds_of_cond 3 f3 rfl rfl rfl rfl rfl rfl rfl ⟨rfl, rfl, rfl, rfl, rfl⟩ rfl rfl rfl rfl rfl (by as_aux_lemma => kernel_rfl) func3 (by
  unfold joinedFacts;simp only [Bool.and_eq_true];repeat' apply And.intro
  all_goals as_aux_lemma => kernel_rfl)
  (of_decide_eq_true (by as_aux_lemma => kernel_rfl)) (by unfold Func.isWrapper; first | (rw [if_pos (by decide +kernel)]; kernel_rfl) | (rw [if_neg (by decide +kernel)]; exact ⟨rfl, rfl⟩))
  (fun os started H enc _ F => by rw [OpenClaim.pre_eq_preRow]; exact lifted os started H enc F)
theorem plain (f : FuncId) (fn : Func) (hf : Tryz.pinned.checked.prog.funcNamed "agora/agoratop.TopSingle" = some f) (hfn : Tryz.pinned.checked.prog.funcs[f]? = some fn) :
  false = Tryz.pinned.checked.prog.looks [] ∧ ∀ (j : Nat) t, fn.params[j]? = some t → Tryz.pinned.checked.prog.wantsStandIn t = false := by
 obtain rfl : f = 3 := Option.some.inj ((show prog.funcNamed "agora/agoratop.TopSingle" = some 3 by kernel_rfl).symm.trans hf) |>.symm
 obtain rfl : fn = f3 := (Option.some.inj (func3.symm.trans hfn)).symm;refine ⟨by kernel_rfl, fun j t ht => ?_⟩
 rw [Tryz.params3] at ht;have hm : t ∈ [22, 3, 3] := by simpa using Array.mem_of_getElem? ht
 rcases List.mem_cons.1 hm with rfl | hm
 ·exact (show prog.wantsStandIn 22 = false by kernel_rfl)
 rcases List.mem_cons.1 hm with rfl | hm
 ·exact (show prog.wantsStandIn 3 = false by kernel_rfl)
 rcases List.mem_cons.1 hm with rfl | hm
 ·exact (show prog.wantsStandIn 3 = false by kernel_rfl)
 cases hm
theorem card : Rows.TopSingleCardSaid :=
 Claim7.holds_tied_plain_at .later [] _ _ _ _ said (fun _ h => by cases h) (by kernel_rfl) (fun _ h => by cases h) topSingle_row_tie rfl ⟨rfl, rfl⟩ (by kernel_rfl) rfl plain (by kernel_rfl)
end topSingle
end
end Go.Proofs.YtiidnoejnphocaaGreatDoor
