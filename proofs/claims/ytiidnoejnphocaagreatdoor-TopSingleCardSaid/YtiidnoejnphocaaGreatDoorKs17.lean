import Derived.Test.YtiidnoejnphocaaGreatDoorKs15
import Derived.Test.YtiidnoejnphocaaGreatDoorKs16
set_option linter.unusedSectionVars false
set_option linter.unusedVariables false
set_option linter.unusedSimpArgs false
namespace Go.Proofs.YtiidnoejnphocaaGreatDoor
section
namespace Pe
open _root_.Go.Proofs.Tryz
open Go Go.RowKit Co Sg Ac It Sl Tp
set_option maxRecDepth 100000
set_option maxHeartbeats 4000000
abbrev AS (l : List Ac.Act) : List AV := Ak (l.map AH)
theorem Js (l : List Ac.Act) : (AS l).length = l.length * 49 := TO AH 49 (fun _ => rfl) l
theorem ST (l : List Ac.Act) (k : Nat) : (AS l).take (k * 49) = AS (l.take k) := by
 show List.take _ (Ak _) = Ak _
 rw [List.map_take, TN (Eg (DP l))]
theorem SU (l : List Ac.Act) (k : Nat) : (AS l).drop (k * 49) = AS (l.drop k) := by
 show List.drop _ (Ak _) = Ak _
 rw [List.map_drop, Pv (Eg (DP l))]
theorem Lb (a b : List Ac.Act) : AS (a ++ b) = AS a ++ AS b := by
 show Ak _ = _
 rw [List.map_append, M7]
theorem Zbf (a : Ac.Act) : AS [a] = FT (Av a) := by
 show Ak [AH a] = _
 simp [Ak, AV.cells]
theorem Zbg (l : List Ac.Act) (k : Nat) (x : Ac.Act) (hx : l[k]? = some x) : ((AS l).drop (k * 49)).take 49 = FT (Av x) := by
 have hk := (List.getElem?_eq_some_iff.1 hx).1
 have h1 : l.drop k = [x] ++ l.drop (k + 1) := by rw [List.drop_eq_getElem_cons hk, (List.getElem?_eq_some_iff.1 hx).2]; rfl
 have h49 : (FT (Av x)).length = 49 := rfl;rw [SU, h1, Lb, Zbf, List.take_append_of_le_length (by omega), List.take_of_length_le (by omega)]
theorem Zbe (l : List Ac.Act) (k : Nat) (x : Ac.Act) (hk : k < l.length) : (Bs (AS l) (k * 49) (AS [x])).take ((k + 1) * 49) ++ AS (l.drop k) = AS (l.take k ++ x :: l.drop k) := by
 have h49 : (AS [x]).length = 49 := by rw [Js]; rfl
 have hl := Js l;have ht : ((AS l).take (k * 49) ++ AS [x]).length = (k + 1) * 49 := by rw [List.length_append, List.length_take, h49, hl]; omega
 have h2 : l.take k ++ x :: l.drop k = (l.take k ++ [x]) ++ l.drop k := by simp
 unfold Bs;rw [List.take_append_of_le_length (by omega), List.take_of_length_le (by omega), h2, Lb, Lb, ST]
theorem TB {a : Ac.Act} (h : Ac.right a = true) : AC prog 141 [AH a] [] (.bo true) [] := by
 have k := TC (Av a) (DE (Dg [] h).1);rwa [(Dg [] h).1] at k
theorem Zbc (l : List Ac.Act) (hl : l.length ≤ 1000) (hr : Bt l) : AC prog 201 [.sl .ro (l.map AH), .it .i64 0] [] (.sl .ro ((El [] l).map AH)) [] := by
 have hsz := DP l;have hszS := DP (El [] l);have hokS : (AS (El [] l)).all (AV.o1 0) = true := Pu _ (fun _ => rfl) _
 refine AC.hw 65 func201 rfl (by decide) (Nat.le_of_ble_eq_true rfl) rfl ?_
 refine HW.seq (HW.aw [] [] (by decide) (by kernel_rfl) ?_)
 refine An ?_
 refine run ?_;refine HW.seq (HW.aw [] [] (by decide) (by kernel_rfl) ?_)
 refine An ?_
 refine run ?_;refine HW.seq (HW.seq (HW.aw [] [] (by decide) (by kernel_rfl) ?_))
 refine An ?_
 refine run ?_;refine HW.block (HW.loop (fun m e S => e 0 = .sl .ro (l.map AH) ∧ e 1 = .it .i64 0 ∧ ∃ (i : Nat) (out : List Ac.Act) (T : Ae), e 6 = .it .i64 (i : Int) ∧ e 5 = .wr 0 out.length none ∧ S = .row (AS out) 75 49 :: T ∧ out.length = i ∧ El [] l = El out (l.drop i) ∧ (∀ x ∈ out, Ac.right x = true) ∧ i ≤ l.length ∧ m = l.length - i) l.length _ _ (Ay.reserveRowT 0 5 (by rfl) 75 (sz := 49) (by decide))
  ⟨Ad, Ad, 0, [], [], Ad, Ad, rfl, rfl, rfl, by simp, by omega, rfl⟩ ?_)
 rintro m e S ⟨s0, s1, i, out, T, s6, s5, rfl, hol, hso, hro, hi, rfl⟩
 by_cases hlt : i < l.length
 rotate_left
 ·obtain rfl : i = l.length := by omega
  rw [List.drop_length] at hso;have hso : El [] l = out := hso;have hlt' : ¬ (l.length : Int) < (l.length : Int) := by omega
  refine HW.seq (HW.aw [] [] (by decide) (by kernel_rfl) ?_)
  refine An ?_
  refine Aa (A5 @s0 @s1 @s6 @s5 @hlt') ?_;refine HW.aw [] [] (by decide) (by kernel_rfl) ?_
  refine An ?_
  refine Aa (A4 @s0 @s1 @s6 @s5) ?_;rw [hso] at hszS hokS ⊢;exact ZcI 4 0 rfl (by rw [List.length_map]) hszS hokS (by rfl) (by rfl) (by rfl)
 have hg : l[i]? = some l[i] := List.getElem?_eq_getElem hlt
 have hdr : l.drop i = l[i] :: l.drop (i + 1) := List.drop_eq_getElem_cons hlt;have hlt' : (i : Int) < (l.length : Int) := by omega
 have w1 := Bx (k := i) (by omega)
 have hra := hr l[i] (List.getElem_mem hlt);rw [hdr, El] at hso;generalize l[i] = a at *;have kr := TB hra;have kq : ((Av a).kind != 0) = false := rfl;refine HW.seq (HW.aw [] [] (by decide) (by kernel_rfl) ?_)
 refine An ?_
 refine Aa (A5 @s0 @s1 @s6 @s5 @hlt') ?_;refine HW.seq (HW.block (HW.seq (HW.aw [141] [] (by decide) (by kernel_rfl) ?_)))
 refine An ?_
 refine Aa (A8 @s0 @s1 @s6 @s5 @hlt' @hg @hsz @kq) ?_;refine cp kr ?_;refine Aa (A4 @s0 @s1 @s6 @s5) ?_;refine HW.seq (HW.aw [] [] (by decide) (by kernel_rfl) ?_)
 refine An ?_
 refine Aa (A4 @s0 @s1 @s6 @s5) ?_;have hF := Js out;have hat := fun j x hx => Zbg out j x hx
 have hlow : ∀ (k : Nat), Eo out a (k + 1) = if LD (out.getD k Au) a = true then Eo out a k else k + 1 := fun _ => rfl
 have hia := DE (Dg [] hra).1;have kaf := fun (x : Ac.Act) (hx : Ac.right x = true) => Zbm x a (DE (Dg [] hx).1) hia
 refine HW.cut (fun e S => e 0 = .sl .ro (l.map AH) ∧ e 1 = .it .i64 0 ∧ e 6 = .it .i64 (i : Int) ∧ e 5 = .wr 0 out.length none ∧ e 7 = .it .i64 ((Eo out a out.length : Nat) : Int) ∧ ∃ T, S = .row (AS out) 75 49 :: T) ?_ ?_
 ·intro K hK
  generalize hFe : AS out = F at *;refine HW.aw [291] [] (by decide) (by kernel_rfl) ?_
  refine An ?_
  refine Aa (A4 @s0 @s1 @s6 @s5) ?_;refine AF (fun m e S => e 0 = .sl .ro (l.map AH) ∧ e 1 = .it .i64 0 ∧ e 6 = .it .i64 (i : Int) ∧ e 5 = .wr 0 out.length none ∧ S = .row F 75 49 :: T ∧ ∃ k : Nat, e 7 = .it .i64 (k : Int) ∧ k ≤ out.length ∧ Eo out a out.length = Eo out a k ∧ m = k) out.length ⟨Ad, Ad, Ad, Ad, rfl, out.length, Ad, Nat.le_refl _, rfl, rfl⟩ ?_
  clear s0 s1 s6 s5;rintro m e S ⟨s0, s1, s6, s5, rfl, k, s7, hk, hpos, rfl⟩
  cases m with
  | zero =>
   have hn : ¬ ((0 : Nat) : Int) > 0 := by omega
   refine Aa (A6 @s0 @s1 @s6 @s5 @s7 @hn) ?_;exact hK _ _ ⟨Ad, Ad, Ad, Ad, by rw [hpos, show Eo out a 0 = 0 from rfl]; exact Ad, _, rfl⟩
  | succ j =>
   have hn : ((j + 1 : Nat) : Int) > 0 := by omega
   have hjl : j < out.length := by omega
   have hgj : out[j]? = some out[j] := List.getElem?_eq_getElem hjl
   have wj : IntKind.i64.wrap (((j + 1 : Nat) : Int) - 1) = (j : Int) := by rw [wrap64 (by omega) (by omega)]; omega
   have hjb : (j : Int) < (out.length : Int) := by omega
   have hj0 : (0 : Int) ≤ (j : Int) := by omega
   have htn : ((j : Nat) : Int).toNat = j := Int.toNat_natCast j;have ha49 := hat j _ hgj;have kx := kaf out[j] (hro _ (List.getElem_mem hjl));have hgd : out.getD j Au = out[j] := by rw [List.getD_eq_getElem?_getD, hgj]; rfl
   have hb : j * 49 + 49 ≤ out.length * 49 := by omega
   rw [hlow, hgd] at hpos;generalize out[j] = x at *;have hap : (if j * 49 = 0 ∧ 49 = out.length * 49 then some (AV.agg F) else some (AV.agg (FT (Av x)))) = some (AV.agg (FT (Av x))) := by
    split
    ·rename_i hc
     rw [← ha49, hc.1, List.drop_zero, List.take_of_length_le (by omega)]
    ·rfl
   cases hx : LD x a with
   | true =>
    rw [hx] at kx;rw [if_pos hx] at hpos;refine Aa (an @s0 (an @s1 (an @s6 (Aw @s5 @s7 @hn @wj @hjb @hg @hsz @ha49 @hF @hb @hap)))) ?_;refine cp kx ?_;refine Aa (A6 @s0 @s1 @s6 @s5 @s7 @wj) ?_;exact Ao j (by omega) ⟨Ad, Ad, Ad, Ad, rfl, j, Ad, by omega, hpos, rfl⟩
   | false =>
    rw [hx] at kx;rw [if_neg (by rw [hx]; decide)] at hpos
    refine Aa (an @s0 (an @s1 (an @s6 (Aw @s5 @s7 @hn @wj @hjb @hg @hsz @ha49 @hF @hb @hap)))) ?_;refine cp kx ?_;refine Aa (A5 @s0 @s1 @s6 @s5 @s7) ?_;exact hK _ _ ⟨Ad, Ad, Ad, Ad, by rw [hpos]; exact Ad, _, rfl⟩
 clear s0 s1 s6 s5 kaf hlow hat;rintro e S ⟨s0, s1, s6, s5, s7, T, rfl⟩
 have hkn := OD out a out.length;have hput : En out a = out.take (Eo out a out.length) ++ a :: out.drop (Eo out a out.length) := rfl;generalize Eo out a out.length = k at *;have hbk : Ch (some (.it .i64 ((k : Nat) : Int))) 0 = some k := by simp [Ch]
 have hap : Cf prog 27 = some (75, 49, 568) := by kernel_rfl
 have hsle : Bk prog 27 = some (75, 49, true) := by kernel_rfl
 have hfk : (AS out).length = out.length * 49 := hF;have hdl : ((out.drop k).map AH).length = out.length - k := by rw [List.length_map, List.length_drop]
 have hdf : Ak ((out.drop k).map AH) = ((AS out).drop (k * 49)).take ((out.length - k) * 49) := by
  rw [SU, List.take_of_length_le (by rw [Js, List.length_drop]; omega)]
 have hfit1 : CN (out.length - k) 568 = true := by unfold CN; simp only [Bool.and_eq_true, decide_eq_true_eq]; omega
 refine HW.seq (HW.reg [] [] (by kernel_rfl) ?_)
 refine JS [_, _, _] [_, _, _] _ _ (EU (pf := []) (rf := []) [_, _, _] _ _ ?_)
 refine An ?_
 refine Aa (an @s5 @s7) ?_;refine ⟨_, _, ⟨rfl, fun T' => Uz (x := .tmp 49) (lo := some (.tmp 50)) (hi := none) (l := 0) (n := out.length) (a := k) (b := out.length) (sz := 49) rfl (by rfl) hsle (by decide) (by exact hbk) (by rfl) hkn (Nat.le_refl _) T'⟩, ?_⟩
 refine ⟨_, _, Zdd (l := 0) (off := k * 49) (n' := out.length - k) (m := out.length) (sz := 49) rfl hap (by rw [hsle]; rfl) (by rfl) (by rfl) (by rfl) hfk (by omega) hdf hdl (DP _) (Pu _ (fun _ => rfl) _) hfit1, ?_⟩
 refine EU (pf := []) (rf := []) [_] _ _ ?_
 refine An ?_
 refine run ?_;have hgk : out.length - k = (out.drop k).length := by rw [List.length_drop]
 have hsx : Ax 49 [AH a] = true := by rfl
 have hfit2 : CN (out.length + 1) 568 = true := by unfold CN; simp only [Bool.and_eq_true, decide_eq_true_eq]; omega
 refine HW.raw [] [] (by decide) (by kernel_rfl) ?_
 refine Jg 0 (d := some 53) (op := .move (.tmp 5)) rfl rfl rfl rfl (by kernel_rfl) (by kernel_rfl) ?_
 refine Aa (an @s5 @s7) ?_;refine Jg 1 (d := some 54) (op := .move (.tmp 7)) rfl rfl rfl rfl (by kernel_rfl) (by kernel_rfl) ?_
 refine Aa (an @s5 @s7) ?_;refine YO 2 (some 55) (.slice 27 (.tmp 53) none (some (.tmp 54)) none) rfl rfl rfl rfl (by kernel_rfl) (by kernel_rfl) (fun ho => ⟨rfl, fun T' => Uz (x := .tmp 53) (lo := none) (hi := some (.tmp 54)) (l := 0) (n := out.length) (a := 0) (b := k) (sz := 49) ho (by rfl) hsle (by decide) (by rfl) (by exact hbk) (Nat.zero_le _) hkn T'⟩) ?_
 refine Jg 3 (d := some 56) (op := .move (.tmp 0)) rfl rfl rfl rfl (by kernel_rfl) (by kernel_rfl) ?_
 refine Aa (A3 @s0 @s5 @s7) ?_;refine Jg 4 (d := some 57) (op := .move (.tmp 6)) rfl rfl rfl rfl (by kernel_rfl) (by kernel_rfl) ?_
 refine Aa (A4 @s0 @s6 @s5 @s7) ?_;refine Jg 5 (d := some 58) (op := .indexAddr 27 (.tmp 56) (.tmp 57)) rfl rfl rfl rfl (by kernel_rfl) (by kernel_rfl) ?_
 refine Aa (A7 @s0 @s6 @s5 @s7 @hg @hsz @hlt') ?_;refine Jg 9 (d := some 62) (op := .move (.tmp 8)) rfl rfl rfl rfl (by kernel_rfl) (by kernel_rfl) ?_
 refine Aa (A4 @s0 @s6 @s5 @s7) ?_;refine Mj (i := 6) (some 59) (.load 75 (.tmp 58)) (by kernel_rfl) rfl rfl rfl rfl ?_
 refine Aa (A7 @s0 @s6 @s5 @s7 @hg @hsz @hlt') ?_;refine Mj (i := 7) (some 60) (.buildSlice 27 1 #[(0, .tmp 59)]) (by kernel_rfl) rfl rfl rfl rfl ?_
 refine Aa @hsx ?_;have hsrc : ∀ (md : Mode) (ys : List AV), EF prog 27 (.sl md ys) = some ys := fun md ys => by unfold EF; simp only [hsle]
 have hplen : (En out a).length = out.length + 1 := RP out a;have hprt : ∀ x ∈ En out a, Ac.right x = true := fun x hx => by
  rcases RO hx with rfl | hx
  ·exact hra
  ·exact hro x hx
 by_cases hkl : k < out.length
 ·have h49 : (AS [a]).length = 49 := by rw [Js]; rfl
  have hal : (Bs (AS out) (k * 49) (AS [a])).length = out.length * 49 := by
   unfold Bs;rw [List.length_append, List.length_append, List.length_take, List.length_drop, hfk, h49];omega
  refine Ml (i := 8) (some 61) (.call { callee := .builtin .append, args := #[.tmp 55, .tmp 60], argTypes := #[27, 27] }) (by kernel_rfl) rfl rfl rfl rfl (fun ho => Zdh (l := 0) (k := k) (m := out.length) (sz := 49) (by_ := 568) (cs := AS out) (ys := [AH a]) ho hap (by rfl) (by exact hsrc _ _) hsx (by rfl) hfk hkl (by exact Nat.zero_lt_one)) ?_
  refine Ml (i := 10) (some 63) (.call { callee := .builtin .append, args := #[.tmp 61, .tmp 62], argTypes := #[27, 27] }) (by kernel_rfl) rfl rfl rfl rfl (fun ho => UC (l := 0) (k := k + 1) (m := out.length) (sz := 49) (by_ := 568) (cs := Bs (AS out) (k * 49) (AS [a])) (ys := (out.drop k).map AH) ho hap (by rfl) (by exact hsrc _ _) (DP _) (by rfl) hal hkl (by rw [hdl]; omega) (by rw [hdl, show k + 1 + (out.length - k) = out.length + 1 by omega]; exact hfit2)) ?_
  refine Mj (i := 11) (some 5) (.assign (.tmp 63)) (by kernel_rfl) rfl rfl rfl rfl ?_
  refine run ?_;refine ⟨by kernel_rfl, ?_⟩
  refine HW.aw [] [] (by decide) (by kernel_rfl) ?_
  refine An ?_
  refine Aa (an @s6 @w1) ?_;exact Ao (l.length - (i + 1)) (by omega) ⟨Ad, Ad, i + 1, En out a, _, Ad, congrArg (fun n => AV.wr 0 n none) (show k + 1 + (out.drop k).length = (En out a).length by rw [List.length_drop, hplen]; omega), by rw [hput, ← Zbe out k a hkl], by omega, hso, hprt, by omega, rfl⟩
 ·obtain rfl : k = out.length := by omega
  have hdn : out.drop out.length = [] := List.drop_length;refine Ml (i := 8) (some 61) (.call { callee := .builtin .append, args := #[.tmp 55, .tmp 60], argTypes := #[27, 27] }) (by kernel_rfl) rfl rfl rfl rfl (fun ho => UC (l := 0) (k := out.length) (m := out.length) (sz := 49) (by_ := 568) (cs := AS out) (ys := [AH a]) ho hap (by rfl) (by exact hsrc _ _) hsx (by rfl) hfk (Nat.le_refl _) (Nat.lt_succ_self _) hfit2) ?_
  have hcl : ((AS out).take (out.length * 49) ++ AS [a]).length = (out.length + 1) * 49 := by
   rw [List.take_of_length_le (by omega), List.length_append, hfk, Js]
   show _ + 1 * 49 = _
   omega
  have hrowk : (.row (((AS out).take (out.length * 49) ++ AS [a]) ++ AS (out.drop out.length)) 75 49 :: (T ++ [.buf (out.length - out.length) 75 49]) : Ae) = .row (AS (En out a)) 75 49 :: (T ++ [.buf (out.length - out.length) 75 49]) := by
   rw [hput, ST, ← Lb, ← Lb, hdn];simp
  have happ : FH prog 27 27 (.row ((AS out).take (out.length * 49) ++ AS [a]) 75 49 :: (T ++ [.buf (out.length - out.length) 75 49])) (.wr 0 (out.length + 1) none) (.sl (.own (T.length + 1)) ((out.drop out.length).map AH)) = some (.wr 0 (out.length + 1 + ((out.drop out.length).map AH).length) none, .row (((AS out).take (out.length * 49) ++ AS [a]) ++ AS (out.drop out.length)) 75 49 :: (T ++ [.buf (out.length - out.length) 75 49])) := by
   unfold FH;simp only [hap, hsrc, List.getElem?_cons_zero]
   rw [if_pos ⟨hcl, trivial, trivial, DP _, by rw [hdn]; exact hfit2⟩]
   rfl
  refine Ml (i := 10) (v := .wr 0 (out.length + 1 + ((out.drop out.length).map AH).length) none) (S' := .row (((AS out).take (out.length * 49) ++ AS [a]) ++ AS (out.drop out.length)) 75 49 :: (T ++ [.buf (out.length - out.length) 75 49])) (some 63) (.call { callee := .builtin .append, args := #[.tmp 61, .tmp 62], argTypes := #[27, 27] }) (by kernel_rfl) rfl rfl rfl rfl (fun ho => by exact UB ho happ) ?_
  refine Mj (i := 11) (some 5) (.assign (.tmp 63)) (by kernel_rfl) rfl rfl rfl rfl ?_
  refine run ?_;refine ⟨by kernel_rfl, ?_⟩
  refine HW.aw [] [] (by decide) (by kernel_rfl) ?_
  refine An ?_
  refine Aa (an @s6 @w1) ?_;exact Ao (l.length - (i + 1)) (by omega) ⟨Ad, Ad, i + 1, En out a, _, Ad, congrArg (fun n => AV.wr 0 n none) (show out.length + 1 + (out.drop out.length).length = (En out a).length by rw [hdn, hplen]; rfl), hrowk, by omega, hso, hprt, by omega, rfl⟩
end Pe
end
section
namespace Pe
open _root_.Go.Proofs.Tryz
open Go Go.RowKit Co Sg Ac It Sl Tp
set_option maxRecDepth 100000
set_option maxHeartbeats 4000000
theorem Zcg {α : Type} (p : α → Bool) (l : List α) (k : Nat) (h : k < l.length) : (l.take (k + 1)).filter p = (l.take k).filter p ++ if p l[k] = true then [l[k]] else [] := by
 rw [List.take_succ_eq_append_getElem h, List.filter_append];congr 1
 simp only [List.filter_cons, List.filter_nil]
theorem Zbo (ps : List Int) (l : List Ac.Act) (id : By) (hl : l.length ≤ 1000) (hr : Bt l) : AC prog 124 [BN ps l, .st id] [] (BO (BD l id)) [] := by
 have ks := Zbc l hl hr;have hL := Oa l [];rw [List.length_nil] at hL;unfold BD;generalize El [] l = L at *;have hsz := DP L;refine Ai [201] [] func124 ?_;refine run ?_;refine cp ks ?_;refine run ?_;refine C2 (fun m e S => e 1 = .st id ∧ e 5 = .sl .ro (L.map AH) ∧ ∃ (k : Nat) (acc : List Ac.Act) (T : Ae), e 7 = .it .i64 (k : Int) ∧ e 6 = .sl (.own 1) (acc.map As) ∧ S = .cells [Bn ps, .sl .ro (l.map AH)] :: .buf acc.length 61 20 :: T ∧ acc = (L.take k).filter (fun a => a.author == id) ∧ k ≤ L.length ∧ m = L.length - k) L.length _ _ (Ay.reserve 0 6 (es := []) (by rfl) 61 20)
  ⟨Ad, Ad, 0, [], [], Ad, Ad, rfl, by simp, by omega, rfl⟩ ?_
 rintro m e S ⟨s1, s5, k, acc, T, s7, s6, rfl, hacc, hk, rfl⟩
 have hal : acc.length ≤ k := by
  rw [hacc];exact Nat.le_trans (List.length_filter_le _ _) (by rw [List.length_take]; omega)
 have hsa := DV acc;by_cases hlt : k < L.length
 ·have hg : L[k]? = some L[k] := List.getElem?_eq_getElem hlt
  have hst := Zcg (fun a : Ac.Act => a.author == id) L k hlt
  rw [← hacc] at hst;have hlt' : (k : Int) < (L.length : Int) := by omega
  have w1 := Bx (k := k) (by omega)
  generalize L[k] = a at *;have hid : ((Av a).act.author == id) = (a.author == id) := rfl;cases h0 : (a.author == id) with
  | true =>
   rw [h0] at hst hid;rw [if_pos rfl] at hst;refine Aa (B1 @s1 @s5 @s7 @s6 @hlt' @hg @hsz @hsa @hid @w1) ?_;exact Ao (L.length - (k + 1)) (by omega) ⟨Ad, Ad, k + 1, acc ++ [a], _, Ad, by rw [List.map_append]; exact Ad, by rw [List.length_append]; rfl, hst.symm, by omega, rfl⟩
  | false =>
   rw [h0] at hst hid;rw [if_neg (by decide), List.append_nil] at hst
   refine Aa (A9 @s1 @s5 @s7 @s6 @hlt' @hg @hsz @hid @w1) ?_;exact Ao (L.length - (k + 1)) (by omega) ⟨Ad, Ad, k + 1, acc, _, Ad, Ad, rfl, hst.symm, by omega, rfl⟩
 ·obtain rfl : k = L.length := by omega
  rw [List.take_length] at hacc;subst hacc;have hlt' : ¬ (L.length : Int) < (L.length : Int) := by omega
  refine Aa (A5 @s1 @s5 @s7 @s6 @hlt') ?_;exact Am
theorem Zb1 (ps : List Int) {a : Ac.Act} (h : Ac.right a = true) : AC prog 74 [Bn ps, AH a] [] (.bo true) [] := by
 have kr := TB h;have q2 : ((Av a).kind == 2) = false := rfl;have q3 : ((Av a).kind == 3) = false := rfl;change AC _ _ [AN (Av a)] _ _ _ at kr;show AC _ _ [_, AN (Av a)] _ _ _
 generalize Av a = i at *;refine Ai [141, 142, 143, 138] [] func74 ?_;refine run ?_;refine cp kr ?_;refine Aa (an @q2 @q3) ?_;exact Ab
theorem ZaV (a : Ac.Act) (l : List Ac.Act) (d : By) : Cw (a :: l) d = if Is (dg a) d = true then Cw l d + 1 else 0 := rfl
theorem F8 {A B : Prop} (h : B) (e : A = B := by
    conv =>
      lhs
      simp only [DS, Cn, C9, List.map_cons, List.map_nil, List.map_toArray, List.getElem?_toArray, List.getElem?_cons_zero, List.getElem?_cons_succ, Option.bind_some, Option.bind_none, List.append_eq, List.cons_append, List.nil_append, BT, DR, BS, OH, List.isEmpty_nil, List.isEmpty_cons, Bool.and_true, Bool.and_false, Bool.and_self, Bool.false_and, Bool.true_and, List.lookup, Nat.reduceBEq, beq_self_eq_true, List.head?_cons, List.head?_nil, Option.some_beq_some, Option.none_beq_some, Option.isSome_some, Option.isSome_none, Bool.or_true, Bool.true_or, Bool.or_false, Bool.not_true, Bool.not_false, Bool.false_eq_true, if_true, if_false, ↓reduceIte, List.size_toArray, List.length_cons, List.length_nil, List.range_succ_eq_map, List.range_zero, Nat.reduceAdd, List.filterMap_cons, List.filterMap_nil]) : A := e ▸ h
theorem Zbn (ps : List Int) (l : List Ac.Act) (a : Ac.Act) (hl : l.length ≤ 1000) (hr : Bt l) (ha : Ac.right a = true) : AC prog 29 [BN ps l, AH a] [] (.tup [BN ps (Eh l a).1, .bo (Eh l a).2]) [] := by
 have hsz := DP l;have hz : ∀ x ∈ l, Iz (Av x) := fun x hx => DE (Dg [] (hr x hx)).1
 have iza := DE (Dg [] ha).1;have k1 := F2 a iza;have k2 := Zb1 ps ha;have k3 := SW ps l (dg a) hl hz;cases hh : Ix l (dg a) with
 | true =>
  rw [hh] at k3;have hadd : Eh l a = (l, false) := by unfold Eh; rw [if_pos hh]
  rw [hadd];generalize dg a = d at *;generalize Av a = it at *;refine AC.enter4 [73, 74, 70] [] [(8, ([0, 1], [46, 50], []))] [] func29 rfl (by decide) (by decide) (Nat.le_of_ble_eq_true rfl) (by kernel_rfl) ?_; refine F8 ?_
  refine run4 ?_
  refine cp k1 ?_;refine run4 ?_
  refine cp k2 ?_;refine run4 ?_
  refine cp k3 ?_;refine run4 ?_
  exact Ab
 | false =>
  rw [hh] at k3;have hlow := OU l (dg a);have hadd : Eh l a = (l.take (Cw l (dg a)) ++ a :: l.drop (Cw l (dg a)), true) := by unfold Eh; rw [if_neg (by rw [hh]; decide)]
  rw [hadd];have hdg : ∀ x ∈ l, AC prog 73 [AH x] [] (.st (dg x)) [] := fun x hx => F2 x (hz x hx)
  have hres : (l.take (Cw l (dg a)) ++ a :: l.drop (Cw l (dg a))).map AH = (l.take (Cw l (dg a))).map AH ++ [AH a] ++ (l.drop (Cw l (dg a))).map AH := by
   rw [List.map_append, List.map_cons, List.append_assoc];rfl
  have hszt : Ax 49 ((l.take (Cw l (dg a))).map AH) = true := DP _;have hszd : Ax 49 ((l.drop (Cw l (dg a))).map AH) = true := DP _;show AC _ _ _ _ (.tup [.agg [Bn ps, .sl .ro ((l.take (Cw l (dg a)) ++ a :: l.drop (Cw l (dg a))).map AH)], .bo true]) _
  rw [hres];have hln : (l.map AH).length = l.length := List.length_map _;generalize hd : dg a = d at *;have hloop : ∀ i : Nat, Cw l d = i + Cw (l.drop i) d → i < l.length → True := fun _ _ _ => trivial
  clear hloop hadd hres;change AC _ _ [.agg (FT (Av a))] _ _ _ at k1;change AC _ _ [_, .agg (FT (Av a))] _ _ _ at k2;refine AC.enter4 [73, 74, 70] [] [(8, ([0, 1], [46, 50], []))] [] func29 rfl (by decide) (by decide) (Nat.le_of_ble_eq_true rfl) (by kernel_rfl) ?_; refine F8 ?_
  refine run4 ?_
  refine cp k1 ?_;refine run4 ?_
  refine cp k2 ?_;refine run4 ?_
  refine cp k3 ?_;refine run4 ?_
  refine AF (fun m e S => e 2 = .ptr 0 0 ∧ e 3 = .ptr 1 0 ∧ e 4 = .ptr 2 0 ∧ e 6 = .st d ∧ S = [.cells [Bn ps, .sl .ro (l.map AH)], .cells (FT (Av a)), .cells [.sl .full [], .sl .full []]] ∧ ∃ i : Nat, e 7 = .it .i64 (i : Int) ∧ Cw l d = i + Cw (l.drop i) d ∧ i ≤ l.length ∧ m = l.length - i) l.length ⟨Ad, Ad, Ad, Ad, rfl, 0, Ad, by simp, by omega, rfl⟩ ?_
  rintro m e S ⟨s2, s3, s4, s6, rfl, i, s7, he, hi, rfl⟩
  rw [Ei s4, Ei s3, Ei s2];by_cases hlt : i < l.length
  rotate_left
  ·obtain rfl : i = l.length := by omega
   rw [List.drop_length] at he;have he : Cw l d = l.length := he;have hlt' : ¬ (l.length : Int) < (l.length : Int) := by omega
   rw [he] at hszt hszd ⊢;refine runf4 (B1 @s2 @s3 @s4 @s6 @s7 @hlt' @hsz @hszt @hszd @hln) ?_
   refine HU ?_; refine run4 ?_
   repeat (first | refine k4 ?_ | refine Et ?_ | (refine CS ?_; refine runf4 (A8 @hsz @hszt @hszd @hln @s7 @s2 @s3 @s4) ?_) | (refine a4 ?_; refine runf4 (A8 @hsz @hszt @hszd @hln @s7 @s2 @s3 @s4) ?_)); try refine runf4 (A8 @hsz @hszt @hszd @hln @s7 @s2 @s3 @s4) ?_
   repeat (first | refine k4 ?_ | refine Et ?_ | (refine CS ?_; refine runf4 (A8 @hsz @hszt @hszd @hln @s7 @s2 @s3 @s4) ?_) | (refine a4 ?_; refine runf4 (A8 @hsz @hszt @hszd @hln @s7 @s2 @s3 @s4) ?_)); try refine runf4 (A8 @hsz @hszt @hszd @hln @s7 @s2 @s3 @s4) ?_
   refine runf4 (A4 @s2 @s3 @s4 @s7) ?_
   exact Am
  have hg : l[i]? = some l[i] := List.getElem?_eq_getElem hlt
  have hdr : l.drop i = l[i] :: l.drop (i + 1) := List.drop_eq_getElem_cons hlt;have hlt' : (i : Int) < (l.length : Int) := by omega
  have w1 := Bx (k := i) (by omega)
  have kd := hdg l[i] (List.getElem_mem hlt);rw [hdr, ZaV] at he;generalize l[i] = x at *;generalize dg x = y at *;cases hle : Is y d with
  | true =>
   rw [if_pos hle] at he;unfold Is at hle;refine runf4 (A8 @s2 @s3 @s4 @s6 @s7 @hlt' @hg @hsz) ?_
   refine cp kd ?_;refine runf4 (A7 @s2 @s3 @s4 @s6 @s7 @hle @w1) ?_
   exact Ao (l.length - (i + 1)) (by omega) ⟨Ad, Ad, Ad, Ad, rfl, i + 1, Ad, by omega, by omega, rfl⟩
  | false =>
   rw [if_neg (by rw [hle]; decide), Nat.add_zero] at he
   unfold Is at hle;rw [he] at hszt hszd ⊢;refine runf4 (A8 @s2 @s3 @s4 @s6 @s7 @hlt' @hg @hsz) ?_
   refine cp kd ?_;refine runf4 (B1 @s2 @s3 @s4 @s6 @s7 @hle @hsz @hszt @hszd @hln) ?_
   refine HU ?_; refine run4 ?_
   repeat (first | refine k4 ?_ | refine Et ?_ | (refine CS ?_; refine runf4 (A8 @hsz @hszt @hszd @hln @s7 @s2 @s3 @s4) ?_) | (refine a4 ?_; refine runf4 (A8 @hsz @hszt @hszd @hln @s7 @s2 @s3 @s4) ?_)); try refine runf4 (A8 @hsz @hszt @hszd @hln @s7 @s2 @s3 @s4) ?_
   repeat (first | refine k4 ?_ | refine Et ?_ | (refine CS ?_; refine runf4 (A8 @hsz @hszt @hszd @hln @s7 @s2 @s3 @s4) ?_) | (refine a4 ?_; refine runf4 (A8 @hsz @hszt @hszd @hln @s7 @s2 @s3 @s4) ?_)); try refine runf4 (A8 @hsz @hszt @hszd @hln @s7 @s2 @s3 @s4) ?_
   refine runf4 (A4 @s2 @s3 @s4 @s7) ?_
   exact Am
end Pe
end
section
namespace Pe
open _root_.Go.Proofs.Tryz
open Go Go.RowKit Co Sg Ac It Sl Tp
set_option maxRecDepth 100000
set_option maxHeartbeats 4000000
theorem L9 {a b : By} (h : a ≠ b) : (a == b) = false := beq_eq_false_iff_ne.2 h
theorem Ma {a b : By} (h : a = b) : (a == b) = true := beq_iff_eq.2 h
theorem M9 {α : Type} (p : α → Bool) (l : List α) (k : Nat) (h : k < l.length) : (l.take (k + 1)).filter p = (l.take k).filter p ++ if p l[k] = true then [l[k]] else [] := by
 rw [List.take_succ_eq_append_getElem h, List.filter_append];congr 1
 simp only [List.filter_cons, List.filter_nil]
theorem P5 {a : Ac.Act} (h : Ac.right a = true) : Sz a ∧ (-9223372036854775808 ≤ a.n ∧ a.n ≤ 9223372036854775807) ∧ (-9223372036854775808 ≤ a.m ∧ a.m ≤ 9223372036854775807) := by
 have hs := C0 h;exact ⟨QS h, by have := hs.n; omega, by have := hs.m; omega⟩
theorem ZdY (l : List Ac.Act) (id : By) (hl : l.length ≤ 1000) (hr : Bt l) : AC prog 125 [BO l, .st id] [] (BO (Ce l id)) [] := by
 have hsz := DV l;refine Ai [59, 71] [] func125 ?_;refine run ?_;refine C2 (fun m e S => e 0 = BO l ∧ e 1 = .st id ∧ ∃ (k : Nat) (acc : List Ac.Act) (T : Ae), e 6 = .it .i64 (k : Int) ∧ e 5 = .sl (.own 0) (acc.map As) ∧ S = .buf acc.length 61 20 :: T ∧ acc = Ce (l.take k) id ∧ k ≤ l.length ∧ m = l.length - k) l.length _ _ (Ay.reserve 0 5 (es := []) (by rfl) 61 20)
  ⟨Ad, Ad, 0, [], [], Ad, Ad, rfl, by simp [Ce], by omega, rfl⟩ ?_
 rintro m e S ⟨s0, s1, k, acc, T, s6, s5, rfl, hacc, hk, rfl⟩
 have hT1 : ∀ y : SObj, (T ++ [y])[T.length]? = some y := fun y => by simp
 have hT2 : ∀ y z : SObj, (T ++ [y]).set T.length z = T ++ [z] := fun y z => by simp
 have hal : acc.length ≤ k := by
  rw [hacc];exact Nat.le_trans (List.length_filter_le _ _) (by rw [List.length_take]; omega)
 have hsa := DV acc;by_cases hlt : k < l.length
 ·have hg : l[k]? = some l[k] := List.getElem?_eq_getElem hlt
  have hst : Ce (l.take (k + 1)) id = acc ++ if DF id l[k] = true then [l[k]] else [] := by
   unfold Ce at hacc ⊢;rw [M9 _ l k hlt, hacc]
  have hlt' : (k : Int) < (l.length : Int) := by omega
  have w1 := Bx (k := k) (by omega)
  have hra := hr l[k] (List.getElem_mem hlt);generalize l[k] = a at *;obtain ⟨hz, hn, hm⟩ := P5 hra;have ko := P3 a.n hn;have kv := M1 a.n a hz hn;by_cases h0 : a.author = id
  rotate_left
  ·have q0 : (a.author == id) = false := L9 h0
   have hb : DF id a = false := by simp [DF, h0]
   rw [hb, if_neg (by decide), List.append_nil] at hst
   refine Aa (Aw @s0 @s1 @s6 @s5 @hlt' @hg @hsz @hT1 @hT2 @w1 @q0) ?_;exact Ao (l.length - (k + 1)) (by omega) ⟨Ad, Ad, k + 1, acc, _, Ad, Ad, rfl, hst.symm, by omega, rfl⟩
  have q0 : (a.author == id) = true := Ma h0;by_cases h1 : a.kind = 0
  rotate_left
  ·have q1 : (a.kind != 0) = true := B6 h1
   have hb : DF id a = false := by simp [DF, h0, h1]
   rw [hb, if_neg (by decide), List.append_nil] at hst
   refine Aa (an @s0 (Aw @s1 @s6 @s5 @hlt' @hg @hsz @hT1 @hT2 @w1 @q0 @q1)) ?_;exact Ao (l.length - (k + 1)) (by omega) ⟨Ad, Ad, k + 1, acc, _, Ad, Ad, rfl, hst.symm, by omega, rfl⟩
  have q1 : (a.kind != 0) = false := B7 h1;by_cases h2 : a.seq = 0
  rotate_left
  ·have q2 : (a.seq != 0) = true := B6 h2
   have hb : DF id a = false := by simp [DF, h0, h1, h2]
   rw [hb, if_neg (by decide), List.append_nil] at hst
   refine Aa (an @s0 (an @s1 (Aw @s6 @s5 @hlt' @hg @hsz @hT1 @hT2 @w1 @q0 @q1 @q2))) ?_;exact Ao (l.length - (k + 1)) (by omega) ⟨Ad, Ad, k + 1, acc, _, Ad, Ad, rfl, hst.symm, by omega, rfl⟩
  have q2 : (a.seq != 0) = false := B7 h2;by_cases h3 : a.prev = []
  rotate_left
  ·have q3 : (a.prev == []) = false := L9 h3
   have hb : DF id a = false := by simp [DF, h0, h1, h2, h3]
   rw [hb, if_neg (by decide), List.append_nil] at hst
   refine Aa (an @s0 (an @s1 (an @s6 (Aw @s5 @hlt' @hg @hsz @hT1 @hT2 @w1 @q0 @q1 @q2 @q3)))) ?_;exact Ao (l.length - (k + 1)) (by omega) ⟨Ad, Ad, k + 1, acc, _, Ad, Ad, rfl, hst.symm, by omega, rfl⟩
  have q3 : (a.prev == []) = true := Ma h3;by_cases h4 : CA a.n = id
  rotate_left
  ·have q4 : (CA a.n == id) = false := L9 h4
   have hb : DF id a = false := by simp [DF, h0, h1, h2, h3, h4]
   rw [hb, if_neg (by decide), List.append_nil] at hst
   refine Aa (an @s0 (an @s1 (an @s6 (Aw @s5 @hlt' @hg @hsz @hT1 @hT2 @w1 @q0 @q1 @q2 @q3)))) ?_;refine cp ko ?_;refine Aa (an @s0 (an @s1 (an @s6 (an @s5 (Aw @hlt' @hg @hsz @hT1 @hT2 @w1 @q0 @q1 @q2 @q3 @q4))))) ?_;exact Ao (l.length - (k + 1)) (by omega) ⟨Ad, Ad, k + 1, acc, _, Ad, Ad, rfl, hst.symm, by omega, rfl⟩
  have q4 : (CA a.n == id) = true := Ma h4;cases hv : C7 a.n a with
  | false =>
   rw [hv] at kv;have hb : DF id a = false := by simp [DF, h0, h1, h2, h3, h4, hv]
   rw [hb, if_neg (by decide), List.append_nil] at hst
   refine Aa (an @s0 (an @s1 (an @s6 (Aw @s5 @hlt' @hg @hsz @hT1 @hT2 @w1 @q0 @q1 @q2 @q3)))) ?_;refine cp ko ?_;refine Aa (an @s0 (an @s1 (an @s6 (an @s5 (Aw @hlt' @hg @hsz @hT1 @hT2 @w1 @q0 @q1 @q2 @q3 @q4))))) ?_;refine cp kv ?_;refine Aa (Aw @s0 @s1 @s6 @s5 @hlt' @hg @hsz @hT1 @hT2 @w1 @hsa) ?_;exact Ao (l.length - (k + 1)) (by omega) ⟨Ad, Ad, k + 1, acc, _, Ad, Ad, rfl, hst.symm, by omega, rfl⟩
  | true =>
   rw [hv] at kv;have hb : DF id a = true := by simp [DF, h0, h1, h2, h3, h4, hv]
   rw [hb, if_pos rfl] at hst;refine Aa (an @s0 (an @s1 (an @s6 (Aw @s5 @hlt' @hg @hsz @hT1 @hT2 @w1 @q0 @q1 @q2 @q3)))) ?_;refine cp ko ?_;refine Aa (an @s0 (an @s1 (an @s6 (an @s5 (Aw @hlt' @hg @hsz @hT1 @hT2 @w1 @q0 @q1 @q2 @q3 @q4))))) ?_;refine cp kv ?_;refine Aa (Aw @s0 @s1 @s6 @s5 @hlt' @hg @hsz @hT1 @hT2 @w1 @hsa) ?_;exact Ao (l.length - (k + 1)) (by omega) ⟨Ad, Ad, k + 1, acc ++ [a], _, Ad, by rw [List.map_append]; exact Ad, by rw [List.length_append]; rfl, hst.symm, by omega, rfl⟩
 ·obtain rfl : k = l.length := by omega
  rw [List.take_length] at hacc;subst hacc;have hlt' : ¬ (l.length : Int) < (l.length : Int) := by omega
  refine Aa (A5 @s0 @s1 @s6 @s5 @hlt') ?_;exact Am
theorem MT {c : Chn} (h : c.keys ≠ []) : c.keys[c.keys.length - 1]? = some (Do c) := by
 have h0 : 0 < c.keys.length := List.length_pos_iff.2 h;unfold Do;rw [List.getD_eq_getElem?_getD, List.getElem?_eq_getElem (by omega)]
 rfl
theorem ZdW (l : List Ac.Act) (c : Chn) (N : Nat) (hl : l.length ≤ 1000) (hr : Bt l) (hc : COk c N) (hN : N ≤ 500) (hk : c.keys ≠ []) : AC prog 128 [BO l, BH c] [] (BO (Cd l c)) [] := by
 have hsz := DV l;have hszk := Ju c.keys;have hlk := MT hk;have hkl : 0 < c.keys.length := List.length_pos_iff.2 hk;have hcl := hc.len;have hck := hc.klen;have w0 : IntKind.i64.wrap ((c.keys.length : Int) - 1) = ((c.keys.length - 1 : Nat) : Int) := by rw [wrap64 (by omega) (by omega)]; omega
 have hlast := hc.last;have hkb : ((c.keys.length - 1 : Nat) : Int) < (c.keys.length : Int) := by omega
 have kf := fun a (hz : Sz a) => PS c a (by omega) hc.acts hz
 generalize hLK : Do c = lk at *;refine Ai [72, 71] [] func128 ?_;refine run ?_;refine C2 (fun m e S => e 0 = BO l ∧ e 3 = .ptr 0 0 ∧ ∃ (k : Nat) (acc : List Ac.Act) (T : Ae), e 6 = .it .i64 (k : Int) ∧ e 5 = .sl (.own 1) (acc.map As) ∧ S = .cells [.st c.id, BO c.acts, .sl .ro (c.keys.map Bd), .st c.prev, .it .i64 c.gen, .bo c.fork] :: .buf acc.length 61 20 :: T ∧ acc = Cd (l.take k) c ∧ k ≤ l.length ∧ m = l.length - k) l.length _ _ (Ay.reserve 0 5 (es := []) (by rfl) 61 20)
  ⟨Ad, Ad, 0, [], [], Ad, Ad, rfl, by simp [Cd], by omega, rfl⟩ ?_
 rintro m e S ⟨s0, s3, k, acc, T, s6, s5, rfl, hacc, hk, rfl⟩
 have hal : acc.length ≤ k := by
  rw [hacc];exact Nat.le_trans (List.length_filter_le _ _) (by rw [List.length_take]; omega)
 have hsa := DV acc;by_cases hlt : k < l.length
 ·have hg : l[k]? = some l[k] := List.getElem?_eq_getElem hlt
  have hst : Cd (l.take (k + 1)) c = acc ++ if (Cc c l[k] && C7 lk.pub l[k]) = true then [l[k]] else [] := by
   unfold Cd at hacc ⊢;rw [M9 _ l k hlt, hacc, hLK]
  have hlt' : (k : Int) < (l.length : Int) := by omega
  have w1 := Bx (k := k) (by omega)
  have hra := hr l[k] (List.getElem_mem hlt);generalize l[k] = a at *;obtain ⟨hz, hn, hm⟩ := P5 hra;have kf := kf a hz;have kv := M1 lk.pub a hz (by omega)
  cases hf : Cc c a with
  | false =>
   rw [hf] at kf hst;rw [Bool.false_and, if_neg (by decide), List.append_nil] at hst
   refine Aa (A8 @s0 @s3 @s6 @s5 @hlt' @hg @hsz @w1) ?_;refine cp kf ?_;refine Aa (A5 @s0 @s3 @s6 @s5 @w1) ?_;exact Ao (l.length - (k + 1)) (by omega) ⟨Ad, Ad, k + 1, acc, _, Ad, Ad, rfl, hst.symm, by omega, rfl⟩
  | true =>
   rw [hf] at kf hst;rw [Bool.true_and] at hst;cases hv : C7 lk.pub a with
   | false =>
    rw [hv] at kv hst;rw [if_neg (by decide), List.append_nil] at hst
    refine Aa (A8 @s0 @s3 @s6 @s5 @hlt' @hg @hsz @w1) ?_;refine cp kf ?_;refine Aa (Aw @s0 @s3 @s6 @s5 @hg @hsz @hszk @hlk @w0 @w1 @hkb) ?_;refine cp kv ?_;refine Aa (A5 @s0 @s3 @s6 @s5 @w1) ?_;exact Ao (l.length - (k + 1)) (by omega) ⟨Ad, Ad, k + 1, acc, _, Ad, Ad, rfl, hst.symm, by omega, rfl⟩
   | true =>
    rw [hv] at kv hst;rw [if_pos rfl] at hst;refine Aa (A8 @s0 @s3 @s6 @s5 @hlt' @hg @hsz @w1) ?_;refine cp kf ?_;refine Aa (Aw @s0 @s3 @s6 @s5 @hg @hsz @hszk @hlk @w0 @w1 @hkb) ?_;refine cp kv ?_;refine Aa (A8 @s0 @s3 @s6 @s5 @hg @hsz @hsa @w1) ?_;exact Ao (l.length - (k + 1)) (by omega) ⟨Ad, Ad, k + 1, acc ++ [a], _, Ad, by rw [List.map_append]; exact Ad, by rw [List.length_append]; rfl, hst.symm, by omega, rfl⟩
 ·obtain rfl : k = l.length := by omega
  rw [List.take_length] at hacc;subst hacc;have hlt' : ¬ (l.length : Int) < (l.length : Int) := by omega
  refine Aa (A5 @s0 @s3 @s6 @s5 @hlt') ?_;exact Am
abbrev IZ : List AV := [.st [], .it .i64 0, .st [], .it .i64 0, .it .i64 0, .st [], .st [], .it .i64 0, .st [], .sl .full [], .st [], .st [], .st [], .st [], .it .i64 0, .sl .full [], .it .i64 0, .it .i64 0, .it .i64 0, .it .i64 0]
def H8 (acts : List Ac.Act) : Ac.Act × Bool :=
 match acts.reverse.find? (fun a => a.kind == 19) with
 | some a => (a, true)
 | none => (Au, false)
theorem Zdr (c : Chn) (hl : c.acts.length ≤ 1000) : AC prog 204 [BH c] [] (.tup [As (H8 c.acts).1, .bo (H8 c.acts).2]) [] := by
 obtain ⟨id, acts, keys, prev, gen, fork⟩ := c;simp only at hl
 have hsz := DV acts;have w0 : IntKind.i64.wrap ((acts.length : Int) - 1) = (acts.length : Int) - 1 := wrap64 (by omega) (by omega)
 refine Ai [] [] func204 ?_;refine Aa @w0 ?_;refine AF (fun m e S => e 1 = .ptr 0 0 ∧ e 2 = .ptr 1 0 ∧ S = [.cells [.st id, BO acts, .sl .ro (keys.map Bd), .st prev, .it .i64 gen, .bo fork], .cells IZ] ∧ ∃ j : Nat, e 4 = .it .i64 ((j : Int) - 1) ∧ j ≤ acts.length ∧ acts.reverse.find? (fun a => a.kind == 19) = (acts.take j).reverse.find? (fun a => a.kind == 19) ∧ m = j) acts.length ⟨Ad, Ad, rfl, acts.length, Ad, Nat.le_refl _, by rw [List.take_length], rfl⟩ ?_
 rintro m e S ⟨s1, s2, rfl, j, s4, hj, hf, rfl⟩
 rw [Ei s2];cases m with
 | zero =>
  have hn : ¬ (((0 : Nat) : Int) - 1) ≥ 0 := by omega
  have hv : H8 acts = (Au, false) := by unfold H8; rw [hf]; rfl
  rw [hv];refine Aa (A4 @s1 @s2 @s4 @hn) ?_;exact Am
 | succ j =>
  have hjl : j < acts.length := by omega
  have hg : acts[j]? = some acts[j] := List.getElem?_eq_getElem hjl
  have ej : (((j + 1 : Nat) : Int) - 1) = (j : Int) := by omega
  have hp : (j : Int) ≥ 0 := by omega
  rw [ej] at s4;have htk : (acts.take (j + 1)).reverse = acts[j] :: (acts.take j).reverse := by rw [List.take_succ_eq_append_getElem hjl, List.reverse_append]; rfl
  rw [htk, List.find?_cons] at hf
  have w1 : IntKind.i64.wrap ((j : Int) - 1) = (j : Int) - 1 := wrap64 (by omega) (by omega)
  generalize acts[j] = k at *;cases hle : (k.kind == 19) with
  | true =>
   rw [hle] at hf;have hv : H8 acts = (k, true) := by unfold H8; rw [hf]
   rw [hv];refine Aa (A7 @s1 @s2 @s4 @hp @hg @hsz @hle) ?_;exact Am
  | false =>
   rw [hle] at hf;refine Aa (A8 @s1 @s2 @s4 @hp @hg @hsz @hle @w1) ?_;exact Ao j (by omega) ⟨Ad, Ad, rfl, j, Ad, by omega, hf, rfl⟩
theorem Zdo (ps : List Int) (l : List Ac.Act) (id : By) (gen : Int) (hl : l.length ≤ 1000) : AC prog 203 [BN ps l, .st id, .it .i64 gen] [] (.tup [JD C5, .bo false]) [] := by
 have hsz := DP l;refine Ai [73, 293, 294] [] func203 ?_;refine run ?_;refine AF (fun m e S => e 3 = .ptr 0 0 ∧ e 6 = .ptr 1 0 ∧ e 8 = .ptr 2 0 ∧ e 9 = .st [] ∧ ∃ (i : Nat) (T : Ae), e 10 = .it .i64 (i : Int) ∧ S = .cells [Bn ps, .sl .ro (l.map AH)] :: .cells [.st [], .it .i64 0, .st [], .it .i64 0, .it .i64 0, .it .i64 0, .it .i64 0, .it .i64 0, .it .i64 0] :: .cells [.st [], .it .i64 0, .st [], .it .i64 0, .it .i64 0, .it .i64 0, .it .i64 0, .it .i64 0, .it .i64 0] :: T ∧ i ≤ l.length ∧ m = l.length - i) l.length ⟨Ad, Ad, Ad, Ad, 0, [], Ad, rfl, by omega, rfl⟩ ?_
 rintro m e S ⟨s3, s6, s8, s9, i, T, s10, rfl, hi, rfl⟩
 rw [Ei s6];have hT1 : ∀ y : SObj, (T ++ [y])[T.length]? = some y := fun y => by simp
 have hT2 : ∀ y z : SObj, (T ++ [y]).set T.length z = T ++ [z] := fun y z => by simp
 by_cases hlt : i < l.length
 ·have hg : l[i]? = some l[i] := List.getElem?_eq_getElem hlt
  have hlt' : (i : Int) < (l.length : Int) := by omega
  have w1 := Bx (k := i) (by omega)
  generalize l[i] = a at *;have kq : ((Av a).kind != 1) = true := rfl;refine Aa (an @s3 (Aw @s6 @s8 @s9 @s10 @hlt' @hg @hsz @hT1 @hT2 @w1 @kq)) ?_;exact Ao (l.length - (i + 1)) (by omega) ⟨Ad, Ad, Ad, Ad, i + 1, _, Ad, rfl, by omega, rfl⟩
 ·obtain rfl : i = l.length := by omega
  have hlt' : ¬ (l.length : Int) < (l.length : Int) := by omega
  refine Aa (A6 @s3 @s6 @s8 @s9 @s10 @hlt') ?_;exact Ab
theorem ZdV (ps : List Int) (l : List Ac.Act) (c : Chn) (hl : l.length ≤ 1000) (hcl : c.acts.length ≤ 1000) : AC prog 127 [BN ps l, BH c] [] (.tup [BH c, .bo false]) [] := by
 have k1 := Zdo ps l c.id c.gen hl;have k2 := Zdr c hcl;obtain ⟨id, acts, keys, prev, gen, fork⟩ := c;simp only at k1 k2 hcl
 generalize H8 acts = r at *;obtain ⟨ra, rb⟩ := r;refine AC.enter4 [203, 204, 205, 206, 73] [] [(8, ([], [1000000], []))] [] func127 rfl (by decide) (by decide) (Nat.le_of_ble_eq_true rfl) (by kernel_rfl) ?_; refine F8 ?_
 refine run4 ?_
 refine cp k1 ?_;refine run4 ?_
 refine cp k2 ?_;refine run4 ?_
 exact Ab
theorem U6 (c : Chn) (a : Ac.Act) (hl : c.acts.length ≤ 1000) (hkl : c.keys.length ≤ 1000) (ha : Ac.right a = true) : AC prog 126 [BH c, As a] [] (BH (CR c a)) [] := by
 have k1 := RD ha;obtain ⟨id, acts, keys, prev, gen, fork⟩ := c;simp only at hl hkl
 have hsz := DV acts;have hszk := Ju keys;have e1 : (acts ++ [a]).map As = acts.map As ++ [As a] := by rw [List.map_append]; rfl
 by_cases h0 : a.kind = 0
 ·have hc : CR ⟨id, acts, keys, prev, gen, fork⟩ a = ⟨id, acts ++ [a], keys ++ [⟨0, a.n, a.m⟩], dg a, gen, fork⟩ := by simp [CR, h0]
  have e2 : (keys ++ [(⟨0, a.n, a.m⟩ : Tp.KeyAt)]).map Bd = keys.map Bd ++ [Bd ⟨0, a.n, a.m⟩] := by rw [List.map_append]; rfl
  have q0 : (a.kind == 0) = true := beq_iff_eq.2 h0;have q18 : (a.kind == 18) = false := beq_eq_false_iff_ne.2 (by omega)
  rw [hc];show AC _ _ _ _ (.agg [.st id, .sl .ro ((acts ++ [a]).map As), .sl .ro ((keys ++ [(⟨0, a.n, a.m⟩ : Tp.KeyAt)]).map Bd), .st (dg a), .it .i64 gen, .bo fork]) _
  rw [e1, e2];generalize dg a = d at *;refine AC.enter4 [202] [] [(1, ([1], [10], [])), (7, ([1], [37, 39], []))] [] func126 rfl (by decide) (by decide) (Nat.le_of_ble_eq_true rfl) (by kernel_rfl) ?_; refine F8 ?_
  refine runf4 @hsz ?_
  refine HU ?_; refine run4 ?_
  repeat (first | refine k4 ?_ | refine Et ?_ | (refine CS ?_; refine runf4 @hsz ?_) | (refine a4 ?_; refine runf4 @hsz ?_)); try refine runf4 @hsz ?_
  repeat (first | refine k4 ?_ | refine Et ?_ | (refine CS ?_; refine runf4 @hsz ?_) | (refine a4 ?_; refine runf4 @hsz ?_)); try refine runf4 @hsz ?_
  refine run4 ?_
  refine cp k1 ?_;refine runf4 (an @q18 @q0) ?_
  refine runf4 (an @q18 @q0) ?_
  refine HU ?_; refine run4 ?_
  repeat (first | refine k4 ?_ | refine Et ?_ | (refine CS ?_; refine runf4 @hszk ?_) | (refine a4 ?_; refine runf4 @hszk ?_)); try refine runf4 @hszk ?_
  repeat (first | refine k4 ?_ | refine Et ?_ | (refine CS ?_; refine runf4 @hszk ?_) | (refine a4 ?_; refine runf4 @hszk ?_)); try refine runf4 @hszk ?_
  refine run4 ?_
  exact Am
 have q0 : (a.kind == 0) = false := beq_eq_false_iff_ne.2 h0;by_cases h18 : a.kind = 18
 ·have hc : CR ⟨id, acts, keys, prev, gen, fork⟩ a = ⟨id, acts ++ [a], keys ++ [⟨((acts.length + 1 : Nat) : Int), a.n, a.m⟩], dg a, gen, fork⟩ := by simp [CR, h18]
  have e2 : (keys ++ [(⟨((acts.length + 1 : Nat) : Int), a.n, a.m⟩ : Tp.KeyAt)]).map Bd = keys.map Bd ++ [Bd ⟨((acts.length + 1 : Nat) : Int), a.n, a.m⟩] := by rw [List.map_append]; rfl
  have q18 : (a.kind == 18) = true := beq_iff_eq.2 h18;have hll : (acts.map As ++ [As a]).length = acts.length + 1 := by simp
  rw [hc];show AC _ _ _ _ (.agg [.st id, .sl .ro ((acts ++ [a]).map As), .sl .ro ((keys ++ [(⟨((acts.length + 1 : Nat) : Int), a.n, a.m⟩ : Tp.KeyAt)]).map Bd), .st (dg a), .it .i64 gen, .bo fork]) _
  rw [e1, e2];generalize dg a = d at *;refine AC.enter4 [202] [] [(1, ([1], [10], [])), (7, ([1], [37, 39], []))] [] func126 rfl (by decide) (by decide) (Nat.le_of_ble_eq_true rfl) (by kernel_rfl) ?_; refine F8 ?_
  refine runf4 @hsz ?_
  refine HU ?_; refine run4 ?_
  repeat (first | refine k4 ?_ | refine Et ?_ | (refine CS ?_; refine runf4 @hsz ?_) | (refine a4 ?_; refine runf4 @hsz ?_)); try refine runf4 @hsz ?_
  repeat (first | refine k4 ?_ | refine Et ?_ | (refine CS ?_; refine runf4 @hsz ?_) | (refine a4 ?_; refine runf4 @hsz ?_)); try refine runf4 @hsz ?_
  refine run4 ?_
  refine cp k1 ?_;refine runf4 (an @q18 @q0) ?_
  refine runf4 (an @q18 @q0) ?_
  refine HU ?_; refine run4 ?_
  repeat (first | refine k4 ?_ | refine Et ?_ | (refine CS ?_; refine runf4 @hszk ?_) | (refine a4 ?_; refine runf4 @hszk ?_)); try refine runf4 @hszk ?_
  repeat (first | refine k4 ?_ | refine Et ?_ | (refine CS ?_; refine runf4 @hszk ?_) | (refine a4 ?_; refine runf4 @hszk ?_)); try refine runf4 @hszk ?_
  refine run4 ?_
  exact Am
 ·have hc : CR ⟨id, acts, keys, prev, gen, fork⟩ a = ⟨id, acts ++ [a], keys, dg a, gen, fork⟩ := by simp [CR, h0, h18]
  have q18 : (a.kind == 18) = false := beq_eq_false_iff_ne.2 h18;rw [hc];show AC _ _ _ _ (.agg [.st id, .sl .ro ((acts ++ [a]).map As), .sl .ro (keys.map Bd), .st (dg a), .it .i64 gen, .bo fork]) _
  rw [e1];generalize dg a = d at *;refine AC.enter4 [202] [] [(1, ([1], [10], [])), (7, ([1], [37, 39], []))] [] func126 rfl (by decide) (by decide) (Nat.le_of_ble_eq_true rfl) (by kernel_rfl) ?_; refine F8 ?_
  refine runf4 @hsz ?_
  refine HU ?_; refine run4 ?_
  repeat (first | refine k4 ?_ | refine Et ?_ | (refine CS ?_; refine runf4 @hsz ?_) | (refine a4 ?_; refine runf4 @hsz ?_)); try refine runf4 @hsz ?_
  repeat (first | refine k4 ?_ | refine Et ?_ | (refine CS ?_; refine runf4 @hsz ?_) | (refine a4 ?_; refine runf4 @hsz ?_)); try refine runf4 @hsz ?_
  refine run4 ?_
  refine cp k1 ?_;refine runf4 (an @q18 @q0) ?_
  refine runf4 (an @q18 @q0) ?_
  exact Am
end Pe
end
section
namespace Pe
open _root_.Go.Proofs.Tryz
open Go Go.RowKit Co Sg Ac It Sl Tp
set_option maxRecDepth 100000
set_option maxHeartbeats 4000000
abbrev N4 (t : Ties) : AV := .agg [At t.follows, At t.accepts, At t.blocks, At t.mutes]
structure TOk (t : Ties) (n : Nat) : Prop where
 f : t.follows.length ≤ n
 a : t.accepts.length ≤ n
 b : t.blocks.length ≤ n
 m : t.mutes.length ≤ n
theorem Xz (l : List By) (d : By) : (Dj l d).length ≤ l.length + 1 := by
 unfold Dj;split
 ·omega
 ·rw [← MN, ← MO, List.length_append, List.length_cons, List.length_take, List.length_drop]
  have := OT l d;omega
theorem Xw (l : List By) (d : By) : (BU l d).length ≤ l.length := List.length_filter_le _ _
theorem Zeq {t : Ties} {n : Nat} (h : TOk t n) (acts : List Ac.Act) (i : Nat) (l : List By) : TOk (GE t acts i l) (n + 1) := by
 obtain ⟨h1, h2, h3, h4⟩ := h;have w := fun l d => Xz l d
 have wo := fun l d => Xw l d
 have self : TOk t (n + 1) := ⟨by omega, by omega, by omega, by omega⟩
 have lw : ∀ (l : List By) d, l.length ≤ n → (Dj l d).length ≤ n + 1 := fun l d hl => by have := w l d; omega
 have lo : ∀ (l : List By) d, l.length ≤ n → (BU l d).length ≤ n + 1 := fun l d hl => by have := wo l d; omega
 unfold GE;simp only
 split
 ·exact ⟨lw _ _ h1, self.a, self.b, self.m⟩
 split
 ·exact ⟨self.f, lw _ _ h2, self.b, self.m⟩
 split
 ·exact ⟨self.f, lo _ _ h2, self.b, self.m⟩
 split
 ·exact ⟨lo _ _ h1, lo _ _ h2, lw _ _ h3, self.m⟩
 split
 ·exact ⟨self.f, self.a, self.b, lw _ _ h4⟩
 split
 ·split
  ·exact self
  ·split
   ·exact self
   ·split
    ·exact ⟨lo _ _ h1, self.a, self.b, self.m⟩
    split
    ·exact ⟨self.f, lo _ _ h2, self.b, self.m⟩
    split
    ·exact ⟨self.f, self.a, lo _ _ h3, self.m⟩
    split
    ·exact ⟨self.f, self.a, self.b, lo _ _ h4⟩
    ·exact self
 ·exact self
theorem Zes (t : Ties) (c : Chn) (i : Nat) (l : List By) (hi : i < c.acts.length) (hcl : c.acts.length ≤ 1000) (ht : TOk t 1000) (hl : l.length ≤ 1000) : AC prog 302 [N4 t, BH c, .it .i64 (i : Int), At l] [] (N4 (GE t c.acts i l)) [] := by
 obtain ⟨h1, h2, h3, h4⟩ := ht;obtain ⟨tf, ta, tb, tm⟩ := t;obtain ⟨id, acts, keys, prev, gen, fork⟩ := c;simp only at hi hcl h1 h2 h3 h4 ⊢
 have hsz := DV acts;have hg : acts[i]? = some acts[i] := List.getElem?_eq_getElem hi
 have hgd : acts.getD i Au = acts[i] := by rw [List.getD_eq_getElem?_getD, hg]; rfl
 have hi' : (i : Int) < (acts.length : Int) := by omega
 have hb : ∀ j, j < i → acts[j]? = some (acts.getD j Au) := fun j hj => by rw [List.getD_eq_getElem?_getD, List.getElem?_eq_getElem (by omega)]; rfl
 have kw := fun (m : List By) d (h : m.length ≤ 1000) => XA m d (by omega)
 have ko := fun (m : List By) d (h : m.length ≤ 1000) => Xx m d (by omega)
 obtain ⟨r, hr⟩ : ∃ r, GE ⟨tf, ta, tb, tm⟩ acts i l = r := ⟨_, rfl⟩
 rw [hr];unfold GE at hr;simp only at hr
 rw [hgd] at hr;generalize acts[i] = a at *;by_cases c7 : a.kind = 7
 ·obtain rfl : r = ⟨Dj tf a.target, ta, tb, tm⟩ := by rw [← hr]; simp [c7]
  have q7 : (a.kind == 7) = true := by rw [c7]; rfl
  refine Ai [328, 329, 330] [] func302 ?_;refine Aa (A4 @hg @hsz @hi' @q7) ?_;refine cp (kw tf a.target h1) ?_;refine run ?_;exact Ab
 by_cases c8 : a.kind = 8
 ·obtain rfl : r = ⟨tf, Dj ta a.target, tb, tm⟩ := by rw [← hr]; simp [c8]
  have q7 : (a.kind == 7) = false := by rw [c8]; rfl
  have q8 : (a.kind == 8) = true := by rw [c8]; rfl
  refine Ai [328, 329, 330] [] func302 ?_;refine Aa (A5 @hg @hsz @hi' @q7 @q8) ?_;refine cp (kw ta a.target h2) ?_;refine run ?_;exact Ab
 by_cases c9 : a.kind = 9
 ·obtain rfl : r = ⟨tf, BU ta a.target, tb, tm⟩ := by rw [← hr]; simp [c9]
  have q7 : (a.kind == 7) = false := by rw [c9]; rfl
  have q8 : (a.kind == 8) = false := by rw [c9]; rfl
  have q9 : (a.kind == 9) = true := by rw [c9]; rfl
  refine Ai [328, 329, 330] [] func302 ?_;refine Aa (A6 @hg @hsz @hi' @q7 @q8 @q9) ?_;refine cp (ko ta a.target h2) ?_;refine run ?_;exact Ab
 by_cases c10 : a.kind = 10
 ·obtain rfl : r = ⟨BU tf a.target, BU ta a.target, Dj tb a.target, tm⟩ := by rw [← hr]; simp [c10]
  have q7 : (a.kind == 7) = false := by rw [c10]; rfl
  have q8 : (a.kind == 8) = false := by rw [c10]; rfl
  have q9 : (a.kind == 9) = false := by rw [c10]; rfl
  have q10 : (a.kind == 10) = true := by rw [c10]; rfl
  refine Ai [328, 329, 330] [] func302 ?_;refine Aa (A7 @hg @hsz @hi' @q7 @q8 @q9 @q10) ?_;refine cp (kw tb a.target h3) ?_;refine run ?_;refine cp (ko tf a.target h1) ?_;refine run ?_;refine cp (ko ta a.target h2) ?_;refine run ?_;exact Ab
 by_cases c11 : a.kind = 11
 ·obtain rfl : r = ⟨tf, ta, tb, Dj tm a.target⟩ := by rw [← hr]; simp [c11]
  have q7 : (a.kind == 7) = false := by rw [c11]; rfl
  have q8 : (a.kind == 8) = false := by rw [c11]; rfl
  have q9 : (a.kind == 9) = false := by rw [c11]; rfl
  have q10 : (a.kind == 10) = false := by rw [c11]; rfl
  have q11 : (a.kind == 11) = true := by rw [c11]; rfl
  refine Ai [328, 329, 330] [] func302 ?_;refine Aa (A8 @hg @hsz @hi' @q7 @q8 @q9 @q10 @q11) ?_;refine cp (kw tm a.target h4) ?_;refine run ?_;exact Ab
 by_cases c6 : a.kind = 6
 rotate_left
 ·obtain rfl : r = ⟨tf, ta, tb, tm⟩ := by rw [← hr]; simp [c7, c8, c9, c10, c11, c6]
  have q7 : (a.kind == 7) = false := beq_eq_false_iff_ne.2 c7;have q8 : (a.kind == 8) = false := beq_eq_false_iff_ne.2 c8;have q9 : (a.kind == 9) = false := beq_eq_false_iff_ne.2 c9;have q10 : (a.kind == 10) = false := beq_eq_false_iff_ne.2 c10;have q11 : (a.kind == 11) = false := beq_eq_false_iff_ne.2 c11;have q6 : (a.kind == 6) = false := beq_eq_false_iff_ne.2 c6;refine Ai [328, 329, 330] [] func302 ?_;refine Aa (A9 @hg @hsz @hi' @q7 @q8 @q9 @q10 @q11 @q6) ?_;exact Ab
 have q7 : (a.kind == 7) = false := by rw [c6]; rfl
 have q8 : (a.kind == 8) = false := by rw [c6]; rfl
 have q9 : (a.kind == 9) = false := by rw [c6]; rfl
 have q10 : (a.kind == 10) = false := by rw [c6]; rfl
 have q11 : (a.kind == 11) = false := by rw [c6]; rfl
 have q6 : (a.kind == 6) = true := by rw [c6]; rfl
 have kx := Zbz l a.object (by omega)
 cases hx : E6 l a.object with
 | none =>
  rw [hx] at kx;obtain rfl : r = ⟨tf, ta, tb, tm⟩ := by rw [← hr]; simp [c6, hx]
  change AC _ _ _ _ (.it .i64 (-1)) _ at kx;have hn1 : (-1 : Int) < 0 := by decide
  refine Ai [328, 329, 330] [] func302 ?_;refine Aa (A9 @hg @hsz @hi' @q7 @q8 @q9 @q10 @q11 @q6) ?_;refine cp kx ?_;refine Aa @hn1 ?_;exact Ab
 | some j =>
  rw [hx] at kx;change AC _ _ _ _ (.it .i64 (j : Int)) _ at kx;have hn1 : ¬ (j : Int) < 0 := by omega
  by_cases hji : i ≤ j
  ·obtain rfl : r = ⟨tf, ta, tb, tm⟩ := by rw [← hr]; simp [c6, hx, hji]
   have hge : (j : Int) ≥ (i : Int) := by omega
   refine Ai [328, 329, 330] [] func302 ?_;refine Aa (A9 @hg @hsz @hi' @q7 @q8 @q9 @q10 @q11 @q6) ?_;refine cp kx ?_;refine Aa (an @hn1 @hge) ?_;exact Ab
  have hge : ¬ (j : Int) ≥ (i : Int) := by omega
  have hgj := hb j (by omega)
  have hj' : (j : Int) < (acts.length : Int) := by omega
  generalize hB : acts.getD j Au = b at *;have hB2 : acts[j]?.getD Au = b := by rw [← List.getD_eq_getElem?_getD]; exact hB
  have hr : (if b.kind = 7 then (⟨BU tf b.target, ta, tb, tm⟩ : Ties) else if b.kind = 8 then ⟨tf, BU ta b.target, tb, tm⟩ else if b.kind = 10 then ⟨tf, ta, BU tb b.target, tm⟩ else if b.kind = 11 then ⟨tf, ta, tb, BU tm b.target⟩ else ⟨tf, ta, tb, tm⟩) = r := by rw [← hr]; simp [c6, hx, hji, hB2]
  by_cases d7 : b.kind = 7
  ·obtain rfl : r = ⟨BU tf b.target, ta, tb, tm⟩ := by rw [← hr]; simp [d7]
   have p7 : (b.kind == 7) = true := by rw [d7]; rfl
   have p8 : (b.kind == 8) = false := by rw [d7]; rfl
   have p10 : (b.kind == 10) = false := by rw [d7]; rfl
   have p11 : (b.kind == 11) = false := by rw [d7]; rfl
   refine Ai [328, 329, 330] [] func302 ?_;refine Aa (A9 @hg @hsz @hi' @q7 @q8 @q9 @q10 @q11 @q6) ?_;refine cp kx ?_;refine Aa (A9 @hn1 @hge @hgj @hsz @hj' @p7 @p8 @p10 @p11) ?_;refine cp (ko tf b.target h1) ?_;refine Aa (A4 @p7 @p8 @p10 @p11) ?_;exact Ab
  by_cases d8 : b.kind = 8
  ·obtain rfl : r = ⟨tf, BU ta b.target, tb, tm⟩ := by rw [← hr]; simp [d8]
   have p7 : (b.kind == 7) = false := by rw [d8]; rfl
   have p8 : (b.kind == 8) = true := by rw [d8]; rfl
   have p10 : (b.kind == 10) = false := by rw [d8]; rfl
   have p11 : (b.kind == 11) = false := by rw [d8]; rfl
   refine Ai [328, 329, 330] [] func302 ?_;refine Aa (A9 @hg @hsz @hi' @q7 @q8 @q9 @q10 @q11 @q6) ?_;refine cp kx ?_;refine Aa (A9 @hn1 @hge @hgj @hsz @hj' @p7 @p8 @p10 @p11) ?_;refine cp (ko ta b.target h2) ?_;refine Aa (A4 @p7 @p8 @p10 @p11) ?_;exact Ab
  by_cases d10 : b.kind = 10
  ·obtain rfl : r = ⟨tf, ta, BU tb b.target, tm⟩ := by rw [← hr]; simp [d10]
   have p7 : (b.kind == 7) = false := by rw [d10]; rfl
   have p8 : (b.kind == 8) = false := by rw [d10]; rfl
   have p10 : (b.kind == 10) = true := by rw [d10]; rfl
   have p11 : (b.kind == 11) = false := by rw [d10]; rfl
   refine Ai [328, 329, 330] [] func302 ?_;refine Aa (A9 @hg @hsz @hi' @q7 @q8 @q9 @q10 @q11 @q6) ?_;refine cp kx ?_;refine Aa (A9 @hn1 @hge @hgj @hsz @hj' @p7 @p8 @p10 @p11) ?_;refine cp (ko tb b.target h3) ?_;refine Aa (A4 @p7 @p8 @p10 @p11) ?_;exact Ab
  by_cases d11 : b.kind = 11
  ·obtain rfl : r = ⟨tf, ta, tb, BU tm b.target⟩ := by rw [← hr]; simp [d11]
   have p7 : (b.kind == 7) = false := by rw [d11]; rfl
   have p8 : (b.kind == 8) = false := by rw [d11]; rfl
   have p10 : (b.kind == 10) = false := by rw [d11]; rfl
   have p11 : (b.kind == 11) = true := by rw [d11]; rfl
   refine Ai [328, 329, 330] [] func302 ?_;refine Aa (A9 @hg @hsz @hi' @q7 @q8 @q9 @q10 @q11 @q6) ?_;refine cp kx ?_;refine Aa (A9 @hn1 @hge @hgj @hsz @hj' @p7 @p8 @p10 @p11) ?_;refine cp (ko tm b.target h4) ?_;refine Aa (A4 @p7 @p8 @p10 @p11) ?_;exact Ab
  obtain rfl : r = ⟨tf, ta, tb, tm⟩ := by rw [← hr]; simp [d7, d8, d10, d11]
  have p7 : (b.kind == 7) = false := beq_eq_false_iff_ne.2 d7;have p8 : (b.kind == 8) = false := beq_eq_false_iff_ne.2 d8;have p10 : (b.kind == 10) = false := beq_eq_false_iff_ne.2 d10;have p11 : (b.kind == 11) = false := beq_eq_false_iff_ne.2 d11;refine Ai [328, 329, 330] [] func302 ?_;refine Aa (A9 @hg @hsz @hi' @q7 @q8 @q9 @q10 @q11 @q6) ?_;refine cp kx ?_;refine Aa (A9 @hn1 @hge @hgj @hsz @hj' @p7 @p8 @p10 @p11) ?_;exact Ab
end Pe
end
section
namespace Pe
open _root_.Go.Proofs.Tryz
open Go Go.RowKit Co Sg Ac It Sl Tp
set_option maxRecDepth 100000
set_option maxHeartbeats 4000000
theorem Zen {α : Type} (p : α → Bool) (l : List α) (k : Nat) (h : k < l.length) : (l.take (k + 1)).any p = ((l.take k).any p || p l[k]) := by
 rw [List.take_succ_eq_append_getElem h];simp only [List.any_append, List.any_cons, List.any_nil, Bool.or_false]
theorem Zdl (c : Chn) (hcl : c.acts.length ≤ 1000) (hr : Bt c.acts) : AC prog 301 [BH c] [] (At (Gy c.acts)) [] := by
 obtain ⟨id, acts, keys, prev, gen, fork⟩ := c;simp only at hcl hr ⊢
 have hsz := DV acts;obtain ⟨r, hrr⟩ : ∃ r, Gy acts = r := ⟨_, rfl⟩
 rw [hrr];unfold Gy at hrr;refine Ai [292, 73] [] func301 ?_;refine run ?_;refine AF (fun m e S => e 1 = .ptr 0 0 ∧ e 3 = .sl .full [] ∧ S = [.cells [.st id, BO acts, .sl .ro (keys.map Bd), .st prev, .it .i64 gen, .bo fork]] ∧ ∃ (k : Nat) (u : Bool), e 5 = .it .i64 (k : Int) ∧ e 4 = .bo u ∧ u = (acts.take k).any (fun a => a.kind == 6) ∧ k ≤ acts.length ∧ m = acts.length - k) acts.length ⟨Ad, Ad, rfl, 0, false, Ad, Ad, by simp, by omega, rfl⟩ ?_
 rintro m e S ⟨s1, s3, rfl, k, u, s5, s4, hu, hk, rfl⟩
 by_cases hlt : k < acts.length
 ·have hg : acts[k]? = some acts[k] := List.getElem?_eq_getElem hlt
  have hat := Zen (fun a : Ac.Act => a.kind == 6) acts k hlt
  rw [← hu] at hat;have hlt' : (k : Int) < (acts.length : Int) := by omega
  have w1 := Bx (k := k) (by omega)
  generalize acts[k] = a at *;cases u with
  | true =>
   rw [Bool.true_or] at hat;refine Aa (A8 @s1 @s3 @s5 @s4 @hlt' @hg @hsz @w1) ?_;exact Ao (acts.length - (k + 1)) (by omega) ⟨Ad, Ad, rfl, k + 1, true, Ad, Ad, hat.symm, by omega, rfl⟩
  | false =>
   rw [Bool.false_or] at hat;obtain ⟨b, hb⟩ : ∃ b, (a.kind == 6) = b := ⟨_, rfl⟩
   rw [hb] at hat;refine Aa (A9 @s1 @s3 @s5 @s4 @hlt' @hg @hsz @w1 @hb) ?_;exact Ao (acts.length - (k + 1)) (by omega) ⟨Ad, Ad, rfl, k + 1, b, Ad, Ad, hat.symm, by omega, rfl⟩
 have hke : k = acts.length := by omega
 subst hke;rw [List.take_length] at hu;rw [← hu] at hrr;have hlt' : ¬ (acts.length : Int) < (acts.length : Int) := by omega
 clear hlt hk;cases u with
 | false =>
  rw [if_neg (by decide)] at hrr
  subst hrr;cases acts with
  | nil =>
   refine Aa (A4 @s1 @s3 @s5 @s4) ?_;refine AF (fun m e S => e 1 = .ptr 0 0 ∧ e 3 = .sl .full [] ∧ e 4 = .bo false ∧ S = [.cells [.st id, BO [], .sl .ro (keys.map Bd), .st prev, .it .i64 gen, .bo fork]] ∧ e 6 = .it .i64 0) 0 ⟨Ad, Ad, Ad, rfl, Ad⟩ ?_
   clear s1 s3 s4;rintro m e S ⟨s1, s3, s4, rfl, s6⟩
   refine Aa (A4 @s1 @s3 @s4 @s6) ?_;exact Am
  | cons a acts =>
   have h0 : (0 : Int) < (((a :: acts).length : Nat) : Int) := by simp only [List.length_cons]; omega
   refine Aa (A5 @s1 @s3 @s5 @s4 @hlt') ?_;refine AF (fun m e S => e 1 = .ptr 0 0 ∧ e 3 = .sl .full [] ∧ e 4 = .bo false ∧ S = [.cells [.st id, BO (a :: acts), .sl .ro (keys.map Bd), .st prev, .it .i64 gen, .bo fork]] ∧ e 6 = .it .i64 0) 0 ⟨Ad, Ad, Ad, rfl, Ad⟩ ?_
   clear s1 s3 s4;rintro m e S ⟨s1, s3, s4, rfl, s6⟩
   refine Aa (A5 @s1 @s3 @s4 @s6 @h0) ?_;exact Am
 | true =>
  rw [if_pos rfl] at hrr;subst hrr;refine Aa (A5 @s1 @s3 @s5 @s4 @hlt') ?_;refine C2 (fun m e S => e 1 = .ptr 0 0 ∧ e 4 = .bo true ∧ ∃ (k : Nat) (acc : List By) (T : Ae), e 6 = .it .i64 (k : Int) ∧ e 3 = .sl (.own 1) (acc.map .st) ∧ S = .cells [.st id, BO acts, .sl .ro (keys.map Bd), .st prev, .it .i64 gen, .bo fork] :: .buf acc.length 9 1 :: T ∧ acc = (acts.take k).map dg ∧ k ≤ acts.length ∧ m = acts.length - k) acts.length _ _ (Ay.reserve 0 3 (es := []) (by exact s3) 9 1)
   ⟨Ad, Ad, 0, [], [], Ad, Ad, rfl, by simp, by omega, rfl⟩ ?_
  clear s1 s3 s4 s5;rintro m e S ⟨s1, s4, k, acc, T, s6, s3, rfl, hacc, hk, rfl⟩
  have hal : acc.length ≤ k := by rw [hacc, List.length_map, List.length_take]; omega
  have hsa := DY acc;by_cases hlt : k < acts.length
  ·have hg : acts[k]? = some acts[k] := List.getElem?_eq_getElem hlt
   have hst : acc ++ [dg acts[k]] = (acts.take (k + 1)).map dg := by rw [List.take_succ_eq_append_getElem hlt, List.map_append, ← hacc]; rfl
   have hlt' : (k : Int) < (acts.length : Int) := by omega
   have w1 := Bx (k := k) (by omega)
   have ko := TH acts[k];have kd := F2 acts[k] (DE (Dg [] (hr _ (List.getElem_mem hlt))).1);generalize acts[k] = a at *;generalize dg a = d at *;refine Aa (A8 @s1 @s4 @s6 @s3 @hlt' @hg @hsz @w1) ?_;refine cp ko ?_;refine Aa (A4 @s1 @s4 @s6 @s3) ?_;refine cp kd ?_;refine Aa (A6 @s1 @s4 @s6 @s3 @hsa @w1) ?_;exact Ao (acts.length - (k + 1)) (by omega) ⟨Ad, Ad, k + 1, acc ++ [d], _, Ad, by rw [List.map_append]; exact Ad, by rw [List.length_append]; rfl, hst, by omega, rfl⟩
  ·obtain rfl : k = acts.length := by omega
   rw [List.take_length] at hacc;subst hacc;have hlt' : ¬ (acts.length : Int) < (acts.length : Int) := by omega
   refine Aa (A5 @s1 @s4 @s6 @s3 @hlt') ?_;exact Am
theorem L0 (acts : List Ac.Act) : ∀ n, TOk (EE acts n) n
 | 0 => ⟨Nat.le_refl _, Nat.le_refl _, Nat.le_refl _, Nat.le_refl _⟩
 | n + 1 => Zeq (L0 acts n) acts n _
theorem TOk.le {t : Ties} {n m : Nat} (h : TOk t n) (hm : n ≤ m) : TOk t m := ⟨by have := h.f; omega, by have := h.a; omega, by have := h.b; omega, by have := h.m; omega⟩
theorem Zdk (acts : List Ac.Act) : (Gy acts).length ≤ acts.length := by
 unfold Gy;split
 ·rw [List.length_map]; omega
 ·exact Nat.zero_le _
theorem XP (c : Chn) (n : Nat) (hcl : c.acts.length ≤ 500) (hn : n ≤ 500) (hr : Bt c.acts) : AC prog 214 [BH c, .it .i64 (n : Int)] [] (N4 (Fk c n)) [] := by
 have kd := Zdl c (by omega) hr
 have hdl := Zdk c.acts;have hok := L0 c.acts;have ka := fun (t : Ties) (i : Nat) (hi : i < c.acts.length) (ht : TOk t 1000) => Zes t c i (Gy c.acts) hi (by omega) ht (by omega)
 have hstep : ∀ i, EE c.acts (i + 1) = GE (EE c.acts i) c.acts i (Gy c.acts) := fun _ => rfl
 unfold Fk;generalize Gy c.acts = D at *;refine Ai [301, 302] [] func214 ?_;refine run ?_;refine cp kd ?_;refine run ?_;refine AF (fun m e S => e 1 = .it .i64 (n : Int) ∧ e 2 = .ptr 0 0 ∧ e 4 = .ptr 1 0 ∧ e 5 = .ptr 2 0 ∧ e 6 = At D ∧ ∃ (i : Nat) (m1 m2 m3 m4 : Mode), e 7 = .it .i64 (i : Int) ∧ S = [.cells [.st c.id, BO c.acts, .sl .ro (c.keys.map Bd), .st c.prev, .it .i64 c.gen, .bo c.fork], .cells [.sl .full [], .sl .full [], .sl .full [], .sl .full []], .cells [.sl m1 ((EE c.acts i).follows.map .st), .sl m2 ((EE c.acts i).accepts.map .st), .sl m3 ((EE c.acts i).blocks.map .st), .sl m4 ((EE c.acts i).mutes.map .st)]] ∧ i ≤ min n c.acts.length ∧ m = min n c.acts.length - i) (min n c.acts.length) ⟨Ad, Ad, Ad, Ad, Ad, 0, .full, .full, .full, .full, Ad, rfl, by omega, rfl⟩ ?_
 rintro m e S ⟨s1, s2, s4, s5, s6, i, m1, m2, m3, m4, s7, rfl, hi, rfl⟩
 rw [Ei s4];by_cases hlt : i < min n c.acts.length
 ·have h1 : (i : Int) < (c.acts.length : Int) := by omega
  have h2 : (i : Int) < (n : Int) := by omega
  have w1 := Bx (k := i) (by omega)
  have kx := ka (EE c.acts i) i (by omega) ((hok i).le (by omega))
  rw [← hstep i] at kx;have hti := hok i;generalize EE c.acts i = t at *;refine Aa (A8 @s1 @s2 @s4 @s5 @s6 @s7 @h1 @h2) ?_;refine cp kx ?_;refine Aa (A7 @s1 @s2 @s4 @s5 @s6 @s7 @w1) ?_;exact Ao (min n c.acts.length - (i + 1)) (by omega) ⟨Ad, Ad, Ad, Ad, Ad, i + 1, .ro, .ro, .ro, .ro, Ad, rfl, by omega, rfl⟩
 ·obtain rfl : i = min n c.acts.length := by omega
  generalize EE c.acts (min n c.acts.length) = t at *;by_cases hle : c.acts.length ≤ n
  ·have hmn : min n c.acts.length = c.acts.length := by omega
   rw [hmn] at s7;have h1 : ¬ (c.acts.length : Int) < (c.acts.length : Int) := by omega
   refine Aa (A7 @s1 @s2 @s4 @s5 @s6 @s7 @h1) ?_;exact Am
  ·have hmn : min n c.acts.length = n := by omega
   rw [hmn] at s7;have h1 : (n : Int) < (c.acts.length : Int) := by omega
   have h2 : ¬ (n : Int) < (n : Int) := by omega
   refine Aa (A8 @s1 @s2 @s4 @s5 @s6 @s7 @h1 @h2) ?_;exact Am
theorem O6 (l : List By) (s : By) : EK l s = if l[Bg l s]? = some s then l else l.take (Bg l s) ++ s :: l.drop (Bg l s) := by
 unfold EK;rw [← MN, ← MO, List.head?_drop]
theorem Zbu (l : List By) (s : By) : (EK l s).length ≤ l.length + 1 := by
 rw [O6];have := OT l s;split
 ·omega
 ·rw [List.length_append, List.length_cons, List.length_take, List.length_drop]; omega
theorem Zbs (l : List By) (d : By) (hl : l.length ≤ 1000) : AC prog 217 [At l, .st d] [] (At (EK l d)) [] := by
 have hsz := DY l;have hszt : Ax 1 ((l.take (Bg l d)).map AV.st) = true := DY _;have hszd : Ax 1 ((l.drop (Bg l d)).map AV.st) = true := DY _;have hres : (l.take (Bg l d) ++ d :: l.drop (Bg l d)).map AV.st = (l.take (Bg l d)).map AV.st ++ [AV.st d] ++ (l.drop (Bg l d)).map AV.st := by
  rw [List.map_append, List.map_cons, List.append_assoc];rfl
 have htl : (l.take (Bg l d)).length = Bg l d := by rw [List.length_take]; have := OT l d; omega
 rw [O6];show AC _ _ _ _ (.sl .ro ((if l[Bg l d]? = some d then l else l.take (Bg l d) ++ d :: l.drop (Bg l d)).map AV.st)) _
 refine Ai [] [] func217 ?_;refine run ?_;refine AF (fun m e S => e 0 = At l ∧ e 1 = .st d ∧ S = [] ∧ ∃ i : Nat, e 5 = .it .i64 (i : Int) ∧ Bg l d = i + Bg (l.drop i) d ∧ i ≤ l.length ∧ m = l.length - i) l.length ⟨Ad, Ad, rfl, 0, Ad, by simp, by omega, rfl⟩ ?_
 rintro m e S ⟨s0, s1, rfl, i, s5, he, hi, rfl⟩
 by_cases hlt : i < l.length
 rotate_left
 ·obtain rfl : i = l.length := by omega
  rw [List.drop_length] at he;have he : Bg l d = l.length := he;have hlt' : ¬ (l.length : Int) < (l.length : Int) := by omega
  rw [if_neg (by rw [he, List.getElem?_eq_none (Nat.le_refl _)]; simp), hres]
  rw [he] at hszt hszd htl ⊢;refine Aa (A8 @s0 @s1 @s5 @hlt' @hsz @hszt @hszd @htl) ?_;exact Am
 have hg : l[i]? = some l[i] := List.getElem?_eq_getElem hlt
 have hdr : l.drop i = l[i] :: l.drop (i + 1) := List.drop_eq_getElem_cons hlt;have hlt' : (i : Int) < (l.length : Int) := by omega
 have w1 := Bx (k := i) (by omega)
 rw [hdr, SK] at he;generalize l[i] = x at *;cases hle : Op.bytesLess x d with
 | true =>
  rw [if_pos hle] at he;refine Aa (A8 @s0 @s1 @s5 @hlt' @hg @hsz @hle @w1) ?_;exact Ao (l.length - (i + 1)) (by omega) ⟨Ad, Ad, rfl, i + 1, Ad, by omega, by omega, rfl⟩
 | false =>
  rw [if_neg (by rw [hle]; decide), Nat.add_zero] at he
  by_cases hx : x = d
  ·have q : (x == d) = true := beq_iff_eq.2 hx
   rw [if_pos (by rw [he, hg, hx])]
   refine Aa (A8 @s0 @s1 @s5 @hlt' @hg @hsz @hle @q) ?_;exact Am
  ·have q : (x == d) = false := beq_eq_false_iff_ne.2 hx
   rw [if_neg (by rw [he, hg]; intro h; exact hx (Option.some.inj h)), hres]
   rw [he] at hszt hszd htl ⊢;refine Aa (Aw @s0 @s1 @s5 @hlt' @hg @hsz @hle @q @hszt @hszd @htl) ?_;exact Am
end Pe
end
end Go.Proofs.YtiidnoejnphocaaGreatDoor
