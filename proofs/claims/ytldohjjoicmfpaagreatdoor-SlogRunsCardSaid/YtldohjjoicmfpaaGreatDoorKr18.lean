/- A part. -/
import Derived.Test.YtldohjjoicmfpaaGreatDoorKr17
set_option linter.unusedSectionVars false
set_option linter.unusedVariables false
set_option linter.unusedSimpArgs false
namespace Go.Proofs.YtldohjjoicmfpaaGreatDoor
section
namespace Pe
open Tryz
open Go Go.RowKit Co Sg Ac
set_option maxRecDepth 100000
set_option maxHeartbeats 4000000
theorem Ay.reserveK [Tab] (N0 : Nat) {e : Af} {S : Ae} (l i : Nat) {cs es : List AV} (hS : S[l]? = some (.cells cs)) (hi : cs[i]? = some (.sl .full es)) (ty : TypeId) (sz : Nat) : Ay N0 e S e (S.set l (.cells (cs.set i (.sl (.own S.length) es))) ++ [.buf es.length ty sz]) := by
 rintro N w0 g0 a w hn ⟨h1, h2, g, h3, h4, h5⟩
 obtain ⟨g', h6, h7, h8, h9, h10⟩ := h3.reserve es.length ty sz;have hlS := (List.getElem?_eq_some_iff.1 hS).1
 have hic := (List.getElem?_eq_some_iff.1 hi).1
 have hn3 := h3.nid;have hn6 := h6.nid;rw [List.length_append, List.length_singleton] at hn6;refine ⟨h1, h2, g', ⟨by rw [List.length_append, List.length_set, List.length_singleton]; exact hn6, fun k o hk => ?_, h6.disj, h6.lt, h6.tab⟩, fun t => (h4 t).le h7.toLe, h5.trans h7⟩
 by_cases hkl : k = l
 ·subst hkl
  rw [List.getElem?_append_left (by rw [List.length_set]; exact hlS), List.getElem?_set_self hlS] at hk
  cases hk
  obtain ⟨k1, k2, k3, arr, T, fr, k4, k5, k6, k7, k8⟩ := h6.obj k (.cells cs) (Dy hS _);refine ⟨k1, k2, k3, arr, T, fr, k4, k5, by rw [List.length_set]; exact k6, k7, fun j u v hu hv => ?_⟩
  by_cases hj : j = i
  ·subst hj
   rw [List.getElem?_set_self hic] at hu
   cases hu
   refine (k8 j _ v hi hv).own_full (by omega) ?_ ?_
   ·rw [← hn3]; exact h9
   ·rw [← hn3]; exact h10
  ·rw [List.getElem?_set_ne (Ne.symm hj)] at hu
   exact k8 j u v hu hv
 ·refine h6.obj k o ?_
  by_cases hkS : k < S.length
  ·rw [List.getElem?_append_left (by rw [List.length_set]; exact hkS), List.getElem?_set_ne (Ne.symm hkl)] at hk
   rw [List.getElem?_append_left hkS]
   exact hk
  ·rw [List.getElem?_append_right (by rw [List.length_set]; omega), List.length_set] at hk
   rw [List.getElem?_append_right (by omega)]
   exact hk
theorem DA (x : R) (hx : x.rest.length ≤ 1000000) : ∃ s y, x.text = (s, y) ∧ y.rest.length ≤ 1000000 ∧ s.length ≤ 1000000 ∧ Wf y ∧ AC prog 205 [.ptr 0 0] [rd x] (.st s) [rd y] := by
 have := Ep x;exact ⟨x.text.1, x.text.2, rfl, by omega, by omega, Yd x, TU x (by omega)⟩
theorem Bu (x : R) (hx : x.rest.length ≤ 1000000) : ∃ (n : Int) (y : R), Ap x = (n, y) ∧ y.rest.length ≤ 1000000 ∧ (0 ≤ n ∧ n < 9223372036854775808) ∧ AC prog 89 [.ptr 0 0] [rd x] (.it .i64 n) [rd y] := by
 have := Cq x;have := F8 x;exact ⟨x.num.1, x.num.2, rfl, by omega, by omega, KD x (by omega)⟩
theorem T3 (x : R) (hx : x.rest.length ≤ 1000000) (hw : Wf x) : ∃ l y, x.list = (l, y) ∧ y.rest.length ≤ 1000000 ∧ (∀ s ∈ l, s.length ≤ 1000000) ∧ l.length ≤ 1000000 ∧ AC prog 206 [.ptr 0 0] [rd x] (Bn l) [rd y] := by
 have h := Ox x;exact ⟨x.list.1, x.list.2, rfl, by omega, fun s hs => by have := h.2.1 s hs; omega, by omega, ZcQ x hx hw⟩
theorem ZcV (x : R) (hx : x.rest.length ≤ 1000000) : AC prog 258 [.ptr 0 0] [rd x] (Gk (Ce x).1) [rd (Ce x).2] := by
 refine Ai [] [] func258 ?_;obtain ⟨s1, x1, e1, b1, c1', _, k1⟩ := DA x hx;obtain ⟨s2, x2, e2, b2, c2', _, k2⟩ := DA x1 b1;obtain ⟨s3, x3, e3, b3, c3', _, k3⟩ := DA x2 b2;have hb : Ce x = (⟨s1, s2, s3⟩, x3) := by unfold Ce; simp only [e1, e2, e3]
 rw [hb];refine run ?_;refine c1 0 k1 ?_;refine run ?_;refine c1 0 k2 ?_;refine run ?_;refine c1 0 k3 ?_;refine run ?_;exact Bj
theorem Um (x : R) (hx : x.rest.length ≤ 1000000) : ∃ (b : Box) (y : R), Ce x = (b, y) ∧ y.rest.length ≤ 1000000 ∧ AC prog 258 [.ptr 0 0] [rd x] (Gk b) [rd y] := by
 have h := Ob x;exact ⟨(Ce x).1, (Ce x).2, rfl, by omega, ZcV x hx⟩
theorem Yq {e : Af} {d : Nat} {v : AV} (h : e d = v) : e = upd e d v := funext fun t => by
 by_cases ht : t = d
 ·subst ht; rw [upd_same]; exact h
 ·rw [upd_ne e ht]
theorem ZcX (s : By) (hs : s.length ≤ 1000000) : AC prog 204 [.st s] [] (.tup [Bl (Ac.read s).1, .bo (Ac.read s).2]) [] := by
 refine Ai [152] [] func204 ?_;have hread := ZaR s;obtain ⟨nm, x0, e0, b0, d0, w0, k0⟩ := DA ⟨s, false⟩ hs;rw [e0] at hread;simp only at hread
 obtain ⟨author, x1, e1, b1, d1, w1, k1⟩ := DA x0 b0;obtain ⟨seq, x2, e2, b2, d2, k2⟩ := Bu x1 b1;obtain ⟨prev, x3, e3, b3, d3, w3, k3⟩ := DA x2 b2;obtain ⟨kind, x4, e4, b4, d4, k4⟩ := Bu x3 b3;obtain ⟨time, x5, e5, b5, d5, k5⟩ := Bu x4 b4;obtain ⟨object, x6, e6, b6, d6, w6, k6⟩ := DA x5 b5;obtain ⟨target, x7, e7, b7, d7, w7, k7⟩ := DA x6 b6;obtain ⟨scope, x8, e8, b8, d8, k8⟩ := Bu x7 b7;obtain ⟨group, x9, e9, b9, d9, w9, k9⟩ := DA x8 b8;obtain ⟨to, x10, e10, b10, d10, d10', k10⟩ := T3 x9 b9 w9;obtain ⟨text, x11, e11, b11, d11, w11, k11⟩ := DA x10 b10;obtain ⟨body, x12, e12, b12, k12⟩ := Um x11 b11;obtain ⟨epoch, x13, e13, b13, d13, k13⟩ := Bu x12 b12;have hn := F8 x13;have hnr := Cq x13;have k14 := KD x13 (by omega)
 have hra : FC x0 = (let wraps := DK x13.num.1 x13.num.2; let n := Ap wraps.2; let m := Ap n.2; let e := Ap m.2; let s := Ap e.2; (⟨author, seq, prev, kind, time, object, target, scope, group, to, text, body, epoch, wraps.1, n.1, m.1, ⟨e.1, s.1⟩⟩, s.2)) := by
  unfold FC;simp only [e1, e2, e3, e4, e5, e6, e7, e8, e9, e10, e11, e12, e13]
 rw [hra] at hread;simp only at hread
 clear hra e0 e1 e2 e3 e4 e5 e6 e7 e8 e9 e10 e11 e12 e13 b0 b1 b2 b3 b4 b5 b6 b7 b8 b9 b10 b11 b12;generalize x13.num = q at *;obtain ⟨n, y⟩ := q;simp only at hn hnr k14 hread
 refine run ?_;refine Au (AC.newAt (MG s) _) ?_;refine run ?_;refine c1 1 k0 ?_;refine run ?_;refine c1 1 k1 ?_;refine run ?_;refine c1 1 k2 ?_;refine run ?_;refine c1 1 k3 ?_;refine run ?_;refine c1 1 k4 ?_;refine run ?_;refine c1 1 k5 ?_;refine run ?_;refine c1 1 k6 ?_;refine run ?_;refine c1 1 k7 ?_;refine run ?_;refine c1 1 k8 ?_;refine run ?_;refine c1 1 k9 ?_;refine run ?_;refine c1 1 k10 ?_;refine run ?_;refine c1 1 k11 ?_;refine run ?_;refine c1 1 k12 ?_;refine run ?_;refine c1 1 k13 ?_;refine run ?_;refine c1 1 k14 ?_;clear k0 k1 k2 k3 k4 k5 k6 k7 k8 k9 k10 k11 k12 k13 k14;refine run ?_;refine Eg (fun m e S => e 0 = .st s ∧ e 2 = .ptr 0 0 ∧ e 4 = .ptr 1 0 ∧ e 5 = .st nm ∧ e 6 = .ptr 2 0 ∧ e 7 = .it .i64 (n : Int) ∧ ∃ (c : Nat) (acc : List Wrap) (z : R) (T : Ae), e 8 = .it .i64 (c : Int) ∧
   S = .cells [.st [], .it .i64 0, .st [], .it .i64 0, .it .i64 0, .st [], .st [], .it .i64 0, .st [], .sl .full [], .st [], .st [], .st [], .st [], .it .i64 0, .sl .full [], .it .i64 0, .it .i64 0, .it .i64 0, .it .i64 0] :: rd z :: .cells [.st author, .it .i64 seq, .st prev, .it .i64 kind, .it .i64 time, .st object, .st target, .it .i64 scope, .st group, Bn to, .st text, .st body.nonce, .st body.data, .st body.tag, .it .i64 epoch, .sl (.own 3) (acc.map Bb), .it .i64 0, .it .i64 0, .it .i64 0, .it .i64 0] :: .buf acc.length 153 5 :: T ∧
   c ≤ n ∧ acc.length + z.rest.length ≤ 1000000 ∧ DK n y = (acc ++ (DK (n - c) z).1, (DK (n - c) z).2) ∧ m = n - c) n _ _ (Ay.reserveK 0 2 15 (es := []) (by rfl) (by rfl) 153 5)
  ⟨Ad, Ad, Ad, Ad, Ad, Ad, 0, [], y, [], Ad, rfl, by omega, by simp; omega, by simp, rfl⟩ ?_
 rintro m e S ⟨s0, s2, s4, s5, s6, s7, c, acc, z, T, s8, rfl, hc, hz, hrw, rfl⟩
 have hT1 : ∀ o : SObj, (T ++ [o])[T.length]? = some o := fun o => by simp
 have hT2 : ∀ o o' : SObj, (T ++ [o]).set T.length o' = T ++ [o'] := fun o o' => by simp
 by_cases hgo : c < n ∧ z.rest ≠ []
 ·obtain ⟨hcn, hne⟩ := hgo
  obtain ⟨n1, y1, f1, g1, i1, l1⟩ := Bu z (by omega)
  obtain ⟨n2, y2, f2, g2, i2, l2⟩ := Bu y1 g1;obtain ⟨bx, y3, f3, g3, l3⟩ := Um y2 g2;have hw : B8 z = (⟨n1, n2, bx⟩, y3) := by unfold B8; simp only [f1, f2, f3]
  have hwr := N9 z;rw [hw] at hwr;simp only at hwr
  have hp : 0 < z.rest.length := List.length_pos_iff.2 hne;obtain ⟨j, hj⟩ : ∃ j, n - c = j + 1 := ⟨n - c - 1, by omega⟩
  have hst : DK (j + 1) z = ((⟨n1, n2, bx⟩ : Wrap) :: (DK j y3).1, (DK j y3).2) := by
   rw [DK, if_neg hne, hw]
  rw [hj, hst] at hrw;have hz3 : acc.length + 1 + y3.rest.length ≤ 1000000 := by
   rcases hwr with h | h
   ·rw [h]; simp only [List.length_nil]; omega
   ·omega
  have hcni : (c : Int) < (n : Int) := by omega
  have hpi : (0 : Int) < (z.rest.length : Int) := by omega
  have hsz : AE 5 (acc.map Bb) = true := BN 5 Bb (fun _ => rfl) _
  refine Aa (A8 s0 s2 s4 s5 s6 s7 s8 hcni) ?_;refine c1 1 (KF z) ?_;refine Aa (A8 s0 s2 s4 s5 s6 s7 s8 hpi) ?_;refine c1 1 l1 ?_;refine Aa (A7 s0 s2 s4 s5 s6 s7 s8) ?_;refine c1 1 l2 ?_;refine Aa (A7 s0 s2 s4 s5 s6 s7 s8) ?_;refine c1 1 l3 ?_;refine Aa (Gv s0 s2 s4 s5 s6 s7 s8 hT1 hT2 hsz) ?_;exact AG (n - (c + 1)) (by omega) ⟨Ad, Ad, Ad, Ad, Ad, Ad, c + 1, acc ++ [⟨n1, n2, bx⟩], y3, _, Ad, by rw [List.map_append, List.length_append]; rfl, by omega, by rw [List.length_append, List.length_singleton]; omega, by rw [hrw, show n - (c + 1) = j from by omega, List.append_assoc]; rfl, rfl⟩
 have hrw' : DK n y = (acc, z) := by
  rw [hrw];by_cases hcn : c < n
  ·have hne : z.rest = [] := Classical.byContradiction fun h => hgo ⟨hcn, h⟩
   obtain ⟨j, hj⟩ : ∃ j, n - c = j + 1 := ⟨n - c - 1, by omega⟩
   rw [hj, DK, if_pos hne];simp
  ·rw [show n - c = 0 from by omega, DK]
   simp
 rw [hrw'] at hread;simp only at hread
 obtain ⟨nn, x15, e15, b15, d15, k15⟩ := Bu z (by omega)
 obtain ⟨mm, x16, e16, b16, d16, k16⟩ := Bu x15 b15;obtain ⟨se, x17, e17, b17, d17, k17⟩ := Bu x16 b16;obtain ⟨ss, x18, e18, b18, d18, k18⟩ := Bu x17 b17;simp only [e15, e16, e17, e18] at hread;have hsz : Sz ⟨author, seq, prev, kind, time, object, target, scope, group, to, text, body, epoch, acc, nn, mm, ⟨se, ss⟩⟩ :=
  ⟨by show author.length ≤ _; omega, by show target.length ≤ _; omega, by show group.length ≤ _; omega, by show text.length ≤ _; omega, fun s hs => by have := d10 s hs; omega, by show to.length ≤ _; omega, by show acc.length ≤ _; omega⟩
 have kb := Ul _ hsz;have kd := Zdd x18;change AC _ _ _ _ (.bo x18.done) _ at kd;clear e15 e16 e17 e18 b15 b16 b17 b18 d15 d16 d17 d18 hsz hrw hrw';rw [Yq s2];by_cases hcn : c < n
 focus
  have hem : z.rest = [] := Classical.byContradiction fun h => hgo ⟨hcn, h⟩
  have hcni : (c : Int) < (n : Int) := by omega
  have hl0 : ¬ (0 : Int) < (z.rest.length : Int) := by rw [hem]; simp
  refine Aa (A8 s0 s2 s4 s5 s6 s7 s8 hcni) ?_;refine c1 1 (KF z) ?_;refine Aa (A8 s0 s2 s4 s5 s6 s7 s8 hl0) ?_
 rotate_left;focus
  have hcni : ¬ (c : Int) < (n : Int) := by omega
  refine Aa (A8 s0 s2 s4 s5 s6 s7 s8 hcni) ?_
 all_goals
  refine c1 1 k15 ?_;refine Aa (A5 s0 s2 s4 s5 s6) ?_;refine c1 1 k16 ?_;refine Aa (A5 s0 s2 s4 s5 s6) ?_;refine c1 1 k17 ?_;refine Aa (A5 s0 s2 s4 s5 s6) ?_;refine c1 1 k18 ?_;refine Aa (A5 s0 s2 s4 s5 s6) ?_;refine c1 1 kd ?_;cases hdn : x18.done with
  | false =>
   rw [hdn, if_neg (fun h => by cases h.1)] at hread
   rw [← hread];refine Aa (A5 s0 s2 s4 s5 s6) ?_;exact AH
  | true =>
   rw [hdn] at hread;by_cases hn : nm = Cl
   rotate_left
   ·rw [if_neg (fun h => hn h.2.1)] at hread
    have hne := Ms nm Cl hn;rw [← hread];refine Aa (A6 s0 s2 s4 s5 s6 hne) ?_;exact AH
   have hne : (nm == Cl) = true := by rw [hn]; exact beq_self_eq_true _
   refine Aa (A6 s0 s2 s4 s5 s6 hne) ?_;refine cp kb ?_;generalize Ac.bytes _ = bs at *;by_cases hbs : bs = s
   ·rw [if_pos ⟨rfl, hn, hbs⟩] at hread
    rw [← hread];have hnb : (bs == s) = true := by rw [hbs]; exact beq_self_eq_true _
    refine Aa (A6 s0 s2 s4 s5 s6 hnb) ?_;exact AH
   ·rw [if_neg (fun h => hbs h.2.2)] at hread
    rw [← hread];have hnb := Ms bs s hbs;refine Aa (A6 s0 s2 s4 s5 s6 hnb) ?_;exact AH
end Pe
end
section
namespace It
open Tryz
open Go Co Sg Ac
theorem RX : ∀ (l : By) (i n m : Nat) (r : By), Dw l i n = some (m, r) → r <:+ l
 | [], _, _, _, _, h => by cases h
 | d :: l, i, n, m, r, h => by
  rw [Jc] at h;split at h
  ·cases h
  split at h
  ·exact (RX l _ _ m r h).trans (List.suffix_cons d l)
  split at h
  ·cases h
  ·cases h; exact List.suffix_cons d _
theorem SJ (x : R) : x.num.2.rest = x.rest.drop (x.rest.length - x.num.2.rest.length) := by
 have h : x.num.2.rest <:+ x.rest := by
  unfold R.num;split
  ·rename_i n r h; exact RX _ _ _ _ _ h
  ·exact List.nil_suffix
 exact List.suffix_iff_eq_drop.1 h
theorem On (s : By) : (R.num ⟨s, false⟩).2.bad = true → (R.num ⟨s, false⟩).2.rest = [] := by
 unfold R.num;split
 ·intro h; cases h
 ·intro _; rfl
theorem NC {x : R} (h : x.bad = true → x.rest = []) : (x.take x.rest.length).1 = x.rest := by
 unfold R.take;cases hb : x.bad with
 | true => rw [if_pos (.inl rfl), h hb]
 | false => rw [if_neg (by simp)]; simp
def CG (s : By) : Item :=
 if (Ap ⟨s, false⟩).1 = 0 then { AI with act := (Ac.read (Ap ⟨s, false⟩).2.rest).1 }
 else if (Ap ⟨s, false⟩).1 = 1 then { AI with kind := 1, claim := (GK (Ap ⟨s, false⟩).2).1 }
 else if (Ap ⟨s, false⟩).1 = 2 then { AI with kind := 2, ballot := (GL (Ap ⟨s, false⟩).2).1 }
 else if (Ap ⟨s, false⟩).1 = 3 then { AI with kind := 3, decision := (GJ (Ap ⟨s, false⟩).2).1 }
 else { AI with kind := (Ap ⟨s, false⟩).1 }
theorem ZbA (s : By) : CG s = (Eu ⟨s, false⟩).1 := by
 have h := NC (On s);unfold CG Eu;simp only
 have h' : ((Ap ⟨s, false⟩).2.take (Ap ⟨s, false⟩).2.rest.length).1 = (Ap ⟨s, false⟩).2.rest := h;by_cases h0 : (Ap ⟨s, false⟩).1 = 0
 ·rw [if_pos h0, if_pos h0]
  simp only [h']
 rw [if_neg h0, if_neg h0];by_cases h1 : (Ap ⟨s, false⟩).1 = 1
 ·rw [if_pos h1, if_pos h1]
 rw [if_neg h1, if_neg h1];by_cases h2 : (Ap ⟨s, false⟩).1 = 2
 ·rw [if_pos h2, if_pos h2]
 rw [if_neg h2, if_neg h2];by_cases h3 : (Ap ⟨s, false⟩).1 = 3
 ·rw [if_pos h3, if_pos h3]
 rw [if_neg h3, if_neg h3]
theorem RS (s : By) : (if s ≠ [] ∧ bytes (CG s) = s then (CG s, true) else (AI, false)) = read s := by
 by_cases hc : s ≠ [] ∧ bytes (CG s) = s
 ·rw [if_pos hc]
  obtain ⟨h1, h2⟩ := hc;generalize CG s = A at *;cases hr : right A with
  | false =>
   rw [bytes_wrong hr] at h2;exact absurd h2.symm h1
  | true =>
   have := Ka hr;rw [h2] at this;exact this.symm
 ·rw [if_neg hc]
  cases h : (read s).2 with
  | false =>
   have := read_wrong h;rw [← this, ← h]
  | true =>
   exfalso;apply hc
   obtain ⟨h1, h2⟩ := read_right h;generalize (read s).1 = a at *;have hb := R6 h1 [] (fun _ => rfl)
   rw [List.append_nil, h2] at hb;rw [ZbA, hb];exact ⟨fun e => M0 h1 (h2.trans e), h2⟩
theorem R0 : ∀ (l : By) (i n m : Nat) (r : By), Dw l i n = some (m, r) → ∃ k, m = n + k * 2 ^ (7 * i) ∧ l = num k ++ r ∧ (0 < i → 0 < k)
 | [], _, _, _, _, h => by cases h
 | d :: l, i, n, m, r, h => by
  unfold Dw at h;have hd : d.toNat < 256 := d.toNat_lt;split at h
  ·cases h
  have hp : 2 ^ (7 * (i + 1)) = 128 * 2 ^ (7 * i) := by rw [show 7 * (i + 1) = 7 + 7 * i from by omega, Nat.pow_add]
  split at h
  ·rename_i h128
   obtain ⟨k, h1, h2, h3⟩ := R0 l (i + 1) _ m r h;have hk := h3 (by omega)
   refine ⟨(d.toNat - 128) + 128 * k, ?_, ?_, fun _ => by omega⟩
   ·rw [h1, hp, Nat.add_mul, Nat.add_assoc]
    congr 2
    rw [Nat.mul_comm 128 k, Nat.mul_assoc]
   ·rw [Ic (by omega), show 128 + ((d.toNat - 128) + 128 * k) % 128 = d.toNat from by omega, show ((d.toNat - 128) + 128 * k) / 128 = k from by omega, UInt8.ofNat_toNat, h2]
    rfl
  ·rename_i h128
   split at h
   ·cases h
   ·rename_i hz
    cases h
    refine ⟨d.toNat, rfl, ?_, fun h0 => by omega⟩
    rw [F7 (by omega), UInt8.ofNat_toNat]
    rfl
theorem ZbK (s : By) (hne : (Ap ⟨s, false⟩).2.rest ≠ []) : Ah (Ap ⟨s, false⟩).1 ++ (Ap ⟨s, false⟩).2.rest = s := by
 have hnum : Ap ⟨s, false⟩ = (((R.num ⟨s, false⟩).1 : Int), (R.num ⟨s, false⟩).2) := rfl;cases hr : Dw s 0 0 with
 | none =>
  have hf : R.num ⟨s, false⟩ = (0, fail) := by unfold R.num; simp only [hr]
  rw [hnum, hf] at hne;exact absurd rfl hne
 | some p =>
  obtain ⟨m, r⟩ := p;have hf : R.num ⟨s, false⟩ = (m, ⟨r, false⟩) := by unfold R.num; simp only [hr]
  obtain ⟨k, e1, e2, _⟩ := R0 s 0 0 m r hr;rw [hnum, hf];simp only
  have e3 : k = m := by simp at e1; omega
  subst e3;rw [e2];unfold Ah;rw [if_neg (by omega), Int.toNat_natCast]
theorem ZaY {s : By} (h : (Dv s).2 = true) : isTime (Dv s).1.time = true ∧ It.right (Dv s).1.item = true ∧ AB (Dv s).1 = s := by
 unfold Dv at h ⊢;simp only at h ⊢
 split at h
 ·rename_i hc
  rw [if_pos hc];obtain ⟨h1, h2⟩ := hc;obtain ⟨h3, h4⟩ := read_right h1;refine ⟨h2, h3, ?_⟩
  unfold AB;rw [if_pos (by simp only [h2, h3]; rfl)]
  simp only
  rw [h4];have hw := NC (On s);have hw' : ((Ap ⟨s, false⟩).2.take (Ap ⟨s, false⟩).2.rest.length).1 = (Ap ⟨s, false⟩).2.rest := hw;rw [hw'] at h1 ⊢;have hne : (Ap ⟨s, false⟩).2.rest ≠ [] := fun e => by
   rw [e] at h1;have := ZaS;rw [h1] at this;cases this
  exact ZbK s hne
 ·cases h
theorem ZaZ (s : By) : (if (read (Ap ⟨s, false⟩).2.rest).2 = true ∧ AB ⟨(Ap ⟨s, false⟩).1, (read (Ap ⟨s, false⟩).2.rest).1⟩ = s then ((⟨(Ap ⟨s, false⟩).1, (read (Ap ⟨s, false⟩).2.rest).1⟩ : Entry), true) else (MN, false)) = Dv s := by
 have hw := NC (On s);have hw' : ((Ap ⟨s, false⟩).2.take (Ap ⟨s, false⟩).2.rest.length).1 = (Ap ⟨s, false⟩).2.rest := hw;have hre : Dv s = if (read (Ap ⟨s, false⟩).2.rest).2 = true ∧ isTime (Ap ⟨s, false⟩).1 = true then (⟨(Ap ⟨s, false⟩).1, (read (Ap ⟨s, false⟩).2.rest).1⟩, true) else (MN, false) := by
  unfold Dv;simp only [hw']
 by_cases hc : (read (Ap ⟨s, false⟩).2.rest).2 = true ∧ isTime (Ap ⟨s, false⟩).1 = true
 ·have hb : AB ⟨(Ap ⟨s, false⟩).1, (read (Ap ⟨s, false⟩).2.rest).1⟩ = s := by
   have h2 : (Dv s).2 = true := by rw [hre, if_pos hc]
   have := (ZaY h2).2.2;rwa [hre, if_pos hc] at this
  rw [hre, if_pos hc, if_pos ⟨hc.1, hb⟩]
 ·rw [hre, if_neg hc]
  refine if_neg fun h => hc ⟨h.1, ?_⟩
  have hne : AB ⟨(Ap ⟨s, false⟩).1, (read (Ap ⟨s, false⟩).2.rest).1⟩ ≠ [] := fun e => by
   rw [e] at h;have h1 := h.1;rw [← h.2] at h1;revert h1
   decide
  exact (ZdC.1 hne).1
end It
namespace Pe
open Tryz
open Go Go.RowKit Co Sg Ac It
set_option maxRecDepth 100000
set_option maxHeartbeats 4000000
theorem Tu (s : By) (hs : s.length ≤ 1000000) : Iz (CG s) := by
 have h0 := Cq ⟨s, false⟩;have h0' : (Ap ⟨s, false⟩).2.rest.length ≤ 1000000 := Nat.le_trans h0 hs;unfold CG;generalize Ap ⟨s, false⟩ = q at *;obtain ⟨k, x⟩ := q;simp only at h0' ⊢
 split
 ·refine ⟨?_, Nat.zero_le _, Nat.zero_le _, Fh⟩
  show Sz (Ac.read x.rest).1
  cases hq : (Ac.read x.rest).2 with
  | true => exact NF (Et (Ac.read_right hq).1)
  | false => rw [Ac.read_wrong hq]; exact Ee
 split
 ·refine ⟨Ee, ?_, Nat.zero_le _, Fh⟩
  have := Ep x;show x.text.1.length ≤ _
  omega
 split
 ·refine ⟨Ee, Nat.zero_le _, ?_, Fh⟩
  have h1 := Cq x;have h2 := Ep x.num.2;show x.num.2.text.1.length ≤ _
  omega
 split
 ·refine ⟨Ee, Nat.zero_le _, Nat.zero_le _, ?_⟩
  have h1 := Cq x;have h2 := Cq x.num.2;have h3 := Cq x.num.2.num.2;have h4 := Ep x.num.2.num.2.num.2;have h5 := Ep x.num.2.num.2.num.2.text.2;have h6 := Ep x.num.2.num.2.num.2.text.2.text.2;have h7 := Ox x.num.2.num.2.num.2.text.2.text.2.text.2;refine ⟨?_, ?_, fun t ht => ?_⟩
  ·show x.num.2.num.2.num.2.text.1.length ≤ _; omega
  ·show x.num.2.num.2.num.2.text.2.text.2.text.2.list.1.length ≤ _; omega
  ·have := h7.2.1 t ht; omega
 ·exact ⟨Ee, Nat.zero_le _, Nat.zero_le _, Fh⟩
theorem ZcY (s : By) (hs : s.length ≤ 1000000) : AC prog 151 [.st s] [] (Bc (CG s)) [] := by
 refine Ai [204] [] func151 ?_;obtain ⟨k, x0, e0, b0, d0, k0⟩ := Bu ⟨s, false⟩ hs;have hsuf := SJ ⟨s, false⟩;have hx0 : (R.num ⟨s, false⟩).2 = x0 := congrArg Prod.snd e0;rw [hx0] at hsuf;have hle : x0.rest.length ≤ s.length := by
  have := Cq ⟨s, false⟩;rw [hx0] at this;exact this
 refine run ?_;refine Au (AC.newAt (MG s) _) ?_;refine run ?_;refine c1 1 k0 ?_;by_cases h0 : k = 0
 ·subst h0
  have hp : CG s = { AI with act := (Ac.read x0.rest).1 } := by
   unfold CG;rw [e0];exact if_pos rfl
  have kr := ZcX x0.rest b0;have hsub : (s.length : Int) - (x0.rest.length : Int) = ((s.length - x0.rest.length : Nat) : Int) := by omega
  have hdr : s.drop (s.length - x0.rest.length) = x0.rest := hsuf.symm;rw [hp];generalize Ac.read x0.rest = q at *;obtain ⟨a, ok⟩ := q;simp only at kr ⊢
  refine run ?_;refine c1 1 (KF x0) ?_;refine Aa (an hsub hdr) ?_;refine cp kr ?_;refine run ?_;exact AH
 by_cases h1 : k = 1
 ·subst h1
  obtain ⟨actor, x1, e1, b1, d1, w1, k1⟩ := DA x0 b0;obtain ⟨base, x2, e2, b2, d2, k2⟩ := Bu x1 b1;obtain ⟨prev, x3, e3, b3, d3, w3, k3⟩ := DA x2 b2;obtain ⟨gen, x4, e4, b4, d4, k4⟩ := Bu x3 b3;obtain ⟨home, x5, e5, b5, d5, k5⟩ := Bu x4 b4;obtain ⟨pub, x6, e6, b6, d6, k6⟩ := Bu x5 b5;obtain ⟨time, x7, e7, b7, d7, k7⟩ := Bu x6 b6;obtain ⟨se, x8, e8, b8, d8, k8⟩ := Bu x7 b7;obtain ⟨ss, x9, e9, b9, d9, k9⟩ := Bu x8 b8;have hp : CG s = { AI with kind := 1, claim := ⟨actor, base, prev, gen, home, pub, time, ⟨se, ss⟩⟩ } := by
   unfold CG;rw [e0];simp only
   rw [if_neg (by omega)]; rw [if_pos (by trivial)]
   unfold GK FB;simp only [e1, e2, e3, e4, e5, e6, e7, e8, e9]
  rw [hp];clear hp e1 e2 e3 e4 e5 e6 e7 e8 e9 b1 b2 b3 b4 b5 b6 b7 b8 b9;refine run ?_;refine c1 1 k1 ?_;refine run ?_;refine c1 1 k2 ?_;refine run ?_;refine c1 1 k3 ?_;refine run ?_;refine c1 1 k4 ?_;refine run ?_;refine c1 1 k5 ?_;refine run ?_;refine c1 1 k6 ?_;refine run ?_;refine c1 1 k7 ?_;refine run ?_;refine c1 1 k8 ?_;refine run ?_;refine c1 1 k9 ?_;refine run ?_;exact AH
 by_cases h2 : k = 2
 ·subst h2
  obtain ⟨server, x1, e1, b1, d1, k1⟩ := Bu x0 b0;obtain ⟨actor, x2, e2, b2, d2, w2, k2⟩ := DA x1 b1;obtain ⟨gen, x3, e3, b3, d3, k3⟩ := Bu x2 b2;obtain ⟨claim, x4, e4, b4, d4, w4, k4⟩ := DA x3 b3;obtain ⟨time, x5, e5, b5, d5, k5⟩ := Bu x4 b4;obtain ⟨se, x6, e6, b6, d6, k6⟩ := Bu x5 b5;obtain ⟨ss, x7, e7, b7, d7, k7⟩ := Bu x6 b6;have hp : CG s = { AI with kind := 2, ballot := ⟨server, actor, gen, claim, time, ⟨se, ss⟩⟩ } := by
   unfold CG;rw [e0];simp only
   rw [if_neg (by omega)]; rw [if_neg (by omega)]; rw [if_pos (by trivial)]
   unfold GL FB;simp only [e1, e2, e3, e4, e5, e6, e7]
  rw [hp];clear hp e1 e2 e3 e4 e5 e6 e7 b1 b2 b3 b4 b5 b6 b7;refine run ?_;refine c1 1 k1 ?_;refine run ?_;refine c1 1 k2 ?_;refine run ?_;refine c1 1 k3 ?_;refine run ?_;refine c1 1 k4 ?_;refine run ?_;refine c1 1 k5 ?_;refine run ?_;refine c1 1 k6 ?_;refine run ?_;refine c1 1 k7 ?_;refine run ?_;exact AH
 by_cases h3 : k = 3
 ·subst h3
  obtain ⟨server, x1, e1, b1, d1, k1⟩ := Bu x0 b0;obtain ⟨number, x2, e2, b2, d2, k2⟩ := Bu x1 b1;obtain ⟨kind, x3, e3, b3, d3, k3⟩ := Bu x2 b2;obtain ⟨actor, x4, e4, b4, d4, w4, k4⟩ := DA x3 b3;obtain ⟨object, x5, e5, b5, d5, w5, k5⟩ := DA x4 b4;obtain ⟨text, x6, e6, b6, d6, w6, k6⟩ := DA x5 b5;obtain ⟨to, x7, e7, b7, d7, d7', k7⟩ := T3 x6 b6 w6;obtain ⟨n, x8, e8, b8, d8, k8⟩ := Bu x7 b7;obtain ⟨frm, x9, e9, b9, d9, k9⟩ := Bu x8 b8;obtain ⟨til, x10, e10, b10, d10, k10⟩ := Bu x9 b9;obtain ⟨se, x11, e11, b11, d11, k11⟩ := Bu x10 b10;obtain ⟨ss, x12, e12, b12, d12, k12⟩ := Bu x11 b11;have hp : CG s = { AI with kind := 3, decision := ⟨server, number, kind, actor, object, text, to, n, frm, til, ⟨se, ss⟩⟩ } := by
   unfold CG;rw [e0];simp only
   rw [if_neg (by omega)]; rw [if_neg (by omega)]; rw [if_neg (by omega)]; rw [if_pos (by trivial)]
   unfold GJ FB;simp only [e1, e2, e3, e4, e5, e6, e7, e8, e9, e10, e11, e12]
  rw [hp];clear hp e1 e2 e3 e4 e5 e6 e7 e8 e9 e10 e11 e12 b1 b2 b3 b4 b5 b6 b7 b8 b9 b10 b11 b12;refine run ?_;refine c1 1 k1 ?_;refine run ?_;refine c1 1 k2 ?_;refine run ?_;refine c1 1 k3 ?_;refine run ?_;refine c1 1 k4 ?_;refine run ?_;refine c1 1 k5 ?_;refine run ?_;refine c1 1 k6 ?_;refine run ?_;refine c1 1 k7 ?_;refine run ?_;refine c1 1 k8 ?_;refine run ?_;refine c1 1 k9 ?_;refine run ?_;refine c1 1 k10 ?_;refine run ?_;refine c1 1 k11 ?_;refine run ?_;refine c1 1 k12 ?_;refine run ?_;exact AH
 have hp : CG s = { AI with kind := k } := by
  unfold CG;rw [e0];simp only
  rw [if_neg h0, if_neg h1, if_neg h2, if_neg h3]
 have q0 : (k == 0) = false := Ea h0;have q1 : (k == 1) = false := Ea h1;have q2 : (k == 2) = false := Ea h2;have q3 : (k == 3) = false := Ea h3;rw [hp];refine Aa (A4 q0 q1 q2 q3) ?_;exact AH
theorem ZcW (s : By) (hs : s.length ≤ 1000000) : AC prog 90 [.st s] [] (.tup [Bc (It.read s).1, .bo (It.read s).2]) [] := by
 refine Ai [151, 92] [] func90 ?_;have kp := ZcY s hs;have kb := Pb (CG s) (Tu s hs);have hread := RS s;generalize CG s = it at *;refine run ?_;refine cp kp ?_;by_cases hse : s = []
 ·rw [if_neg (fun h => h.1 hse)] at hread
  have hsn : (s == []) = true := by rw [hse]; rfl
  rw [← hread];refine Aa hsn ?_;exact AH
 have hsn : (s == []) = false := Dx s [] hse;refine Aa hsn ?_;refine cp kb ?_;generalize It.bytes it = bs at *;by_cases hbs : bs = s
 ·rw [if_pos ⟨hse, hbs⟩] at hread
  rw [← hread];have hne : (bs == s) = true := by rw [hbs]; exact beq_self_eq_true _
  refine Aa hne ?_;exact AH
 ·rw [if_neg (fun h => hbs h.2)] at hread
  rw [← hread];have hne := Dx bs s hbs;refine Aa hne ?_;exact AH
theorem ZcU (s : By) (hs : s.length ≤ 1000000) : AC prog 43 [.st s] [] (.tup [Az (Dv s).1, .bo (Dv s).2]) [] := by
 refine Ai [90, 53] [] func43 ?_;obtain ⟨k, x0, e0, b0, d0, k0⟩ := Bu ⟨s, false⟩ hs;have hsuf := SJ ⟨s, false⟩;have hx0 : (R.num ⟨s, false⟩).2 = x0 := congrArg Prod.snd e0;rw [hx0] at hsuf;have hle : x0.rest.length ≤ s.length := by
  have := Cq ⟨s, false⟩;rw [hx0] at this;exact this
 have hread := ZaZ s;rw [e0] at hread;simp only at hread
 have kr := ZcW x0.rest b0;have hz : Iz (It.read x0.rest).1 := by
  cases hq : (It.read x0.rest).2 with
  | true =>
   have h1 := RS x0.rest;have h2 := Tu x0.rest b0;split at h1
   ·rw [← h1]; exact h2
   ·rw [← h1] at hq; cases hq
  | false => rw [It.read_wrong hq]; exact ⟨Ee, Nat.zero_le _, Nat.zero_le _, Fh⟩
 have hsub : (s.length : Int) - (x0.rest.length : Int) = ((s.length - x0.rest.length : Nat) : Int) := by omega
 have hdr : s.drop (s.length - x0.rest.length) = x0.rest := hsuf.symm;generalize It.read x0.rest = q at *;obtain ⟨it, ok⟩ := q;simp only at kr hz hread
 have kb := O9 ⟨k, it⟩ hz;refine run ?_;refine Au (AC.newAt (MG s) _) ?_;refine run ?_;refine c1 1 k0 ?_;refine run ?_;refine c1 1 (KF x0) ?_;refine Aa (an hsub hdr) ?_;refine cp kr ?_;cases ok with
 | false =>
  rw [if_neg (fun h => by cases h.1)] at hread
  rw [← hread];refine run ?_;exact AH
 | true =>
  refine run ?_;refine cp kb ?_;generalize AB _ = bs at *;by_cases hbs : bs = s
  ·rw [if_pos ⟨rfl, hbs⟩] at hread
   rw [← hread];have hne : (bs == s) = true := by rw [hbs]; exact beq_self_eq_true _
   refine Aa hne ?_;exact AH
  ·rw [if_neg (fun h => hbs h.2)] at hread
   rw [← hread];have hne := Dx bs s hbs;refine Aa hne ?_;exact AH
theorem Pa (i : It.Item) (h : Iz i) : AC prog 45 [Bc i] [] (.st (It.digest i)) [] := by
 refine Ai [92, 93] [] func45 ?_;have kb := Pb i h;have hl := M2 i;unfold It.digest;generalize It.bytes i = bs at *;refine run ?_;refine cp kb ?_;by_cases hb : bs = []
 ·subst hb
  rw [if_pos rfl];refine run ?_;exact Ab
 ·have hq : (bs == []) = false := Dx bs [] hb
  rw [if_neg hb];refine Aa hq ?_;refine cp (I7 bs (by omega)) ?_
  refine run ?_;exact Ab
end Pe
end
section
namespace Ql
open Tryz
open Go Co Sg Ac It Sl Wl
abbrev dg (e : It.Entry) : By := It.digest e.item
abbrev AJ (E : List It.Entry) : List By := E.map AB
def AN (E : List It.Entry) (now : Int) : Int := match E.getLast? with
 | none => now
 | some e => max now e.time
def BO (d : Dm.Dk) (f : Int) (E : List It.Entry) (it : It.Item) (now : Int) : (Int × Int) × Dm.Dk × List It.Entry :=
 if It.right it = true ∧ 0 ≤ now ∧ now ≤ 1099511627776 then
  if It.digest it ∈ E.map dg then ((0, 13), d, E)
  else if (Bv d f (AB ⟨AN E now, it⟩)).1 = 0 then ((E.length, 0), (Bv d f (AB ⟨AN E now, it⟩)).2, E ++ [⟨AN E now, it⟩])
  else ((0, (Bv d f (AB ⟨AN E now, it⟩)).1), (Bv d f (AB ⟨AN E now, it⟩)).2, E)
 else ((0, 1), d, E)
def DI (E : List It.Entry) (fl : Nat) (frm n : Int) : List It.Entry := if n ≤ 0 then [] else ((E.take fl).drop frm.toNat).take n.toNat
def Im (E : List It.Entry) : Int := match E.getLast? with
 | none => 0
 | some e => e.time
def FL (k : Key) (server : Int) (E : List It.Entry) (fl : Nat) : Head := Di k server (E.take fl) (Im (E.take fl))
theorem ZdD (e : It.Entry) : (AB e).length ≤ 200009 := by
 unfold AB;split
 ·rename_i h
  rw [Bool.and_eq_true] at h;have h1 := AZ.1 h.1;have := Ak e.time (by omega)
  have := Pe.bytesIt_len6 e.item;rw [List.length_append];omega
 ·exact Nat.zero_le _
end Ql
end
section
namespace Pe
open Tryz
open Go Go.RowKit Co Dm Wl
set_option maxRecDepth 100000
set_option maxHeartbeats 4000000
theorem Mz (d : Dk) (f : Int) (rows : List By) : SubOk (List.range 3) (LG d f rows) (LG d f rows) := NG 3 rfl rfl rfl
theorem Yj (d : Dk) (f : Int) (rows : List By) (s : By) (hs : s.length ≤ 140737488355328) (hr : rows.length ≤ 16777216) :
  AC prog 49 [.ptr 1 0, .st s] (LG d f rows) (.it .i64 (Bv d f s).1) (LG (Bv d f s).2 f (if (Bv d f s).1 = 0 then rows ++ [s] else rows)) := by
 refine As [100] [] func49 ?_;have had : Bv d f s = (if 1048576 < s.length then (7, d) else appendD d f (AK s)) := rfl
 by_cases hl : 1048576 < s.length
 ·rw [if_pos hl] at had
  rw [had];simp only
  rw [if_neg (by decide)]
  have e1 : (s.length : Int) > 1048576 := by omega
  refine Aa e1 ?_;exact Aq (List.range 3) (by rfl) (Mz ..) (by rfl) (by rfl) (by rfl)
 rw [if_neg hl] at had;have e1 : ¬ ((s.length : Int) > 1048576) := by omega
 have hrl : (AK s).length ≤ 9223372036854775807 := by
  have h1 := Jf 8 s.length (by omega)
  have h2 := G4 s;simp only [AK, List.length_append];omega
 refine Aa e1 ?_;refine cp (ZaP s hs) ?_;refine run ?_;refine c1 0 (Zee d f (AK s) hrl) ?_;rw [← had];generalize Bv d f s = q;obtain ⟨en, d2⟩ := q;try simp only
 by_cases hen : en = 0
 ·subst hen
  rw [if_pos rfl];have hft : CX (rows.length + 1) 16 = true := by apply FM <;> omega
  have hln : (rows.map AV.st).length = rows.length := List.length_map _;have f1 : (rows ++ [s]).map AV.st = rows.map .st ++ [.st s] := List.map_append ..;have f2 : (rows ++ [s]).length = rows.length + 1 := by simp
  unfold LG;simp only [f1, f2];refine Aa (an hft hln) ?_;exact Aq (List.range 3) (by rfl) (NG 3 rfl rfl rfl) (by rfl) (by rfl) (by rfl)
 ·rw [if_neg hen]
  have e2 : (en == 0) = false := by simpa using hen
  refine Aa e2 ?_;exact Aq (List.range 3) (by rfl) (Mz ..) (by rfl) (by rfl) (by rfl)
theorem Yc (d : Dk) (f : Int) (rows : List By) : AC prog 54 [.ptr 1 0] (LG d f rows) (.it .i64 (flushD d f).1) (LG (flushD d f).2 f rows) := by
 refine As [] [] func54 ?_;refine run ?_;refine c1 0 (Po d f) ?_;refine run ?_;exact Aq (List.range 3) (by rfl) (Mz ..) (by rfl) (by rfl) (by rfl)
end Pe
end
section
namespace Pe
open Tryz
open Go Go.RowKit Co Dm Wl
set_option maxRecDepth 100000
set_option maxHeartbeats 4000000
theorem AC.emptiesW [Tab] {P : Program} {f : FuncId} {m : Mode} {rest : List AV} {S S' : Ae} {v : AV} (h : ∀ (A : Option Addr) (c : Nat), AC P f (.ot (.slice A 0 c) :: rest) S v S') : AC P f (.sl m [] :: rest) S v S' := by
 refine ⟨(h none 0).can, fun w g cargs hw hargs => ?_⟩
 obtain ⟨h1, h2⟩ := hargs;have h0 : 0 < cargs.size := by rw [h1]; simp
 have hr := h2 0 _ cargs[0] rfl (Array.getElem?_eq_getElem h0)
 generalize hcv : cargs[0] = cv at hr;cases hr with
 | sl _ _ _ A c sz cu hc hcm hsz hA h1' hr' hm =>
  refine (h A c).run w g cargs hw ⟨by simpa using h1, fun j u v hu hv => ?_⟩
  cases j with
  | zero =>
   simp only [List.getElem?_cons_zero, Option.some.injEq] at hu
   subst hu;rw [Array.getElem?_eq_getElem h0, hcv] at hv
   cases hv
   exact .ot _ _ rfl
  | succ j => exact h2 (j + 1) u v (by simpa using hu) hv
theorem Yi (l : List By) (hl : l.length ≤ 16777216) : AC prog 74 [.sl .ro (l.map AV.st)] [] (.sl .ro (l.map AV.st)) [] := by
 cases l with
 | nil =>
  refine AC.emptiesW fun A c => ?_
  refine Ai [] [] func74 ?_;cases A with
  | none =>
   refine run ?_;exact AH
  | some A =>
   refine run ?_;exact AH
 | cons x l =>
  have hs1 : AE 1 ((x :: l).map AV.st) = true := BN 1 AV.st (fun _ => rfl) _
  have hl' : l.length ≤ 16777216 := by simp only [List.length_cons] at hl; omega
  simp only [List.map_cons] at hs1 ⊢;refine Ai [] [] func74 ?_;refine Aa hs1 ?_;exact AH
theorem Qp (d : Dk) (f : Int) (rows : List By) (hr : rows.length ≤ 16777216) : AC prog 36 [.ptr 1 0] (LG d f rows) (.sl .ro (rows.map AV.st)) (LG d f rows) := by
 refine As [74] [] func36 ?_;refine run ?_;refine cp (Yi rows hr) ?_;refine run ?_;exact Aq (List.range 3) (by rfl) (Mz ..) (by rfl) (by rfl) (by rfl)
end Pe
end
section
namespace Pe
open Tryz
open Go Go.RowKit Co Dm Wl
set_option maxRecDepth 100000
set_option maxHeartbeats 4000000
theorem Qh (d : Dk) (f : Int) (hf : 0 ≤ f ∧ f ≤ 6) (hb : (peek d f).1.length ≤ 16777216) (h : (AU d f).1 = 0) :
  AC prog 35 [.ptr 0 0, .it .i64 f] [XD d] (.tup [.ptr 1 0, .it .i64 0]) (LG (AU d f).2 f (AD (peek d f).1)) :=
 Qi d f hf hb _ _ (fun _ => ⟨rfl, rfl⟩) (fun h' => absurd h h')
theorem Ya (d : Dk) (f : Int) (hf : 0 ≤ f ∧ f ≤ 6) (hb : (peek d f).1.length ≤ 16777216) (h : (AU d f).1 ≠ 0) :
  AC prog 35 [.ptr 0 0, .it .i64 f] [XD d] (.tup [.ot (.pointer none), .it .i64 (AU d f).1]) [XD (AU d f).2] :=
 Qi d f hf hb _ _ (fun h' => absurd h' h) (fun _ => ⟨rfl, rfl⟩)
theorem Yb (d : Dk) (f : Int) (hf : ¬ (0 ≤ f ∧ f ≤ 6)) : AC prog 35 [.ptr 0 0, .it .i64 f] [XD d] (.tup [.ot (.pointer none), .it .i64 1]) [XD d] := by
 refine AC.enterN 76 [] [] func35 rfl (by decide) (by decide) (Nat.le_of_ble_eq_true rfl) (by kernel_rfl) rfl ?_; refine PW ?_
 by_cases h0 : f < 0
 ·refine Aa h0 ?_
  exact Bj
 ·have h1 : f > 6 := by omega
  refine Aa (an h0 h1) ?_;exact Bj
section
variable {P : Program} {pf rf : List FuncId} {e : Af} {f : FuncId} {dst : Option Nat} {rest : List AO} {K : Af → Ae → Prop}
theorem Tf (d : Dk) (n : Int) (rows : List By) : ∀ (i : Nat) (o : SObj), (LG d n rows)[i]? = some o → o.ok 3 = true := fun i o hi => by
 match i, hi with
 | 0, hi => cases hi; rfl
 | 1, hi => cases hi; rfl
 | 2, hi => cases hi; rfl
structure LgAt (T : Ae) (a b c : Nat) (d : Dk) (n : Int) (rows : List By) : Prop where
 ab : a ≠ b
 ac : a ≠ c
 bc : b ≠ c
 d0 : T[a]? = some (XD d)
 l0 : T[b]? = some (.cells [.ptr a 0, .it .i64 n, .sl (.own c) (rows.map .st)])
 r0 : T[c]? = some (.buf rows.length 9 1)
theorem LgAt.sub {T : Ae} {a b c : Nat} {d : Dk} {n : Int} {rows : List By} (h : LgAt T a b c d n rows) : SubOk [a, b, c] T (LG d n rows) := ⟨by simp [h.ab, h.ac, h.bc], rfl, fun i o hi => by
 match i, hi with
 | 0, hi => cases hi; exact ⟨rfl, h.d0⟩
 | 1, hi => cases hi; exact ⟨rfl, h.l0⟩
 | 2, hi => cases hi; exact ⟨rfl, h.r0⟩⟩
theorem AC.lg {args : List AV} {T : Ae} {d d' : Dk} {n : Int} {rows rows' : List By} {v : AV} {a b c : Nat} (hl : LgAt T a b c d n rows) (h : AC P f (.ptr 1 0 :: args) (LG d n rows) v (LG d' n rows'))
  (ha : args.all (AV.ok 0) = true) (hv : v.ok 0 = true) : AC P f (.ptr b 0 :: args) T v (((T.set a (XD d')).set b (.cells [.ptr a 0, .it .i64 n, .sl (.own c) (rows'.map .st)])).set c (.buf rows'.length 9 1)) := by
 have ha1 : ∀ u ∈ args, u.ok 3 = true := fun u hu => CT (List.all_eq_true.1 ha u hu) (Nat.zero_le 3)
 have := h.frame (T := T) [a, b, c] hl.sub (by simp only [List.all_cons, Bool.and_eq_true]; exact ⟨rfl, List.all_eq_true.2 ha1⟩) (CT hv (Nat.zero_le 3)) (Tf _ _ _)
 rw [List.map_cons, F5 ha, Cn hv (fun i hi => absurd hi (Nat.not_lt_zero _))] at this
 simpa [after, B6, ext, At, SObj.ren, AV.r1, AV.r0, Mode.ren, AV.ren, AV.r2] using this
theorem AC.lo {T : Ae} {d d' : Dk} {n : Int} {rows : List By} {a : Nat} (hT : T[a]? = some (XD d)) (h : AC P f [.ptr 0 0, .it .i64 n] [XD d] (.tup [.ptr 1 0, .it .i64 0]) (LG d' n rows)) :
  AC P f [.ptr a 0, .it .i64 n] T (.tup [.ptr T.length 0, .it .i64 0]) (T.set a (XD d') ++ [.cells [.ptr a 0, .it .i64 n, .sl (.own (T.length + 1)) (rows.map .st)], .buf rows.length 9 1]) := by
 have := h.frame (T := T) [a] (EI a rfl hT) rfl rfl (Tf _ _ _);simpa [after, B6, ext, At, SObj.ren, AV.r1, AV.r0, Mode.ren, AV.ren, AV.r2] using this
theorem KO {args gargs : List AV} {T : Ae} {d d' : Dk} {n : Int} {rows rows' : List By} {v : AV} (a b c : Nat) (h : AC P f (.ptr 1 0 :: args) (LG d n rows) v (LG d' n rows'))
  (h' : Bh P pf rf rest (put e dst v) (((T.set a (XD d')).set b (.cells [.ptr a 0, .it .i64 n, .sl (.own c) (rows'.map .st)])).set c (.buf rows'.length 9 1)) K)
  (hl : LgAt T a b c d n rows := by exact ⟨by decide, by decide, by decide, rfl, rfl, rfl⟩) (ha : args.all (AV.ok 0) = true := by rfl) (hv : v.ok 0 = true := by rfl) (hg : gargs.map AV.wk = .ptr b 0 :: args := by rfl) :
  BL (EE P f gargs T) (CN P pf rf dst rest e K) := Au (show AC P f (gargs.map AV.wk) T v _ by rw [hg]; exact AC.lg hl h ha hv) h'
theorem Ey {gargs : List AV} {T : Ae} {d d' : Dk} {n : Int} {rows : List By} (a : Nat) (h : AC P f [.ptr 0 0, .it .i64 n] [XD d] (.tup [.ptr 1 0, .it .i64 0]) (LG d' n rows))
  (h' : Bh P pf rf rest (put e dst (.tup [.ptr T.length 0, .it .i64 0])) (T.set a (XD d') ++ [.cells [.ptr a 0, .it .i64 n, .sl (.own (T.length + 1)) (rows.map .st)], .buf rows.length 9 1]) K)
  (hT : T[a]? = some (XD d) := by rfl) (hg : gargs.map AV.wk = [.ptr a 0, .it .i64 n] := by rfl) :
  BL (EE P f gargs T) (CN P pf rf dst rest e K) := Au (show AC P f (gargs.map AV.wk) T _ _ by rw [hg]; exact AC.lo hT h) h'
end
end Pe
end
section
namespace Pe
open Tryz
open Go Go.RowKit Co Sg Ac It Sl Wl Ql
set_option maxRecDepth 100000
set_option maxHeartbeats 4000000
abbrev B9 (l : List By) : SObj := .map (l.map fun s => (.st s, .bo true))
theorem GQ (n : Nat) (l : List By) : (B9 l).ok n = true := by
 show (l.map fun s => (AV.st s, AV.bo true)).all _ = true
 rw [List.all_map, List.all_eq_true];intro x _;rfl
theorem F9 (ρ : Nat → Nat) (l : List By) : (B9 l).ren ρ = B9 l := by
 show SObj.map _ = SObj.map _
 rw [List.map_map];rfl
abbrev SG (d : Dm.Dk) (f server : Int) (k : Key) (E : List It.Entry) (fl : Nat) : Ae :=
 [XD d, .cells [.ptr 0 0, .it .i64 f, .sl (.own 2) ((AJ E).map .st)], .buf E.length 9 1,
 .cells [.ptr 1 0, .it .i64 server, .it .i64 k.secret, .it .i64 k.pub, .sl (.own 4) (E.map Az), .mp 5, .it .i64 (fl : Int)], .buf E.length 82 50, B9 (E.map dg)]
theorem F1 (d : Dm.Dk) (f server : Int) (k : Key) (E : List It.Entry) (fl : Nat) (T : Ae) : SubOk (List.range 6) (SG d f server k E fl ++ T) (SG d f server k E fl) := ⟨by decide, rfl, fun i o hi => by
 match i, hi with
 | 0, hi => cases hi; exact ⟨rfl, rfl⟩
 | 1, hi => cases hi; exact ⟨rfl, rfl⟩
 | 2, hi => cases hi; exact ⟨rfl, rfl⟩
 | 3, hi => cases hi; exact ⟨rfl, rfl⟩
 | 4, hi => cases hi; exact ⟨rfl, rfl⟩
 | 5, hi => cases hi; exact ⟨GQ _ _, congrArg some (F9 _ _).symm⟩⟩
theorem Q9 (d : Dm.Dk) (f server : Int) (k : Key) (E : List It.Entry) (fl : Nat) : ∀ (i : Nat) (o : SObj), (SG d f server k E fl)[i]? = some o → o.ok 6 = true := fun i o hi => by
 match i, hi with
 | 0, hi => cases hi; rfl
 | 1, hi => cases hi; rfl
 | 2, hi => cases hi; rfl
 | 3, hi => cases hi; rfl
 | 4, hi => cases hi; rfl
 | 5, hi => cases hi; exact GQ _ _
theorem Rf (e : It.Entry) (h1 : e.item.act.to.length ≤ 1000000) (h2 : e.item.act.wraps.length ≤ 1000000) (h3 : e.item.decision.to.length ≤ 1000000) : AC prog 48 [Az e] [] (Az e) [] := by
 refine As [74, 98] [] func48 ?_;refine run ?_;refine cp (Pv e.item.act.to h1) ?_;refine run ?_;refine cp (Vp e.item.act.wraps h2) ?_;refine run ?_;refine cp (Pv e.item.decision.to h3) ?_;refine run ?_;exact Ab
theorem JZ (d : Dm.Dk) (f server : Int) (k : Key) (E : List It.Entry) (fl : Nat) : SubOk (List.range 6) (SG d f server k E fl) (SG d f server k E fl) := by
 have := F1 d f server k E fl [];rwa [List.append_nil] at this
theorem OB (d : Dm.Dk) (f server : Int) (k : Key) (E : List It.Entry) (fl : Nat) (T : Ae) : LgAt (SG d f server k E fl ++ T) 0 1 2 d f (AJ E) := ⟨by decide, by decide, by decide, rfl, rfl, by rw [List.length_map]; rfl⟩
theorem NO (d : Dm.Dk) (f server : Int) (k : Key) (E : List It.Entry) (fl : Nat) : AC prog 25 [.ptr 3 0] (SG d f server k E fl) (.it .i64 (fl : Int)) (SG d f server k E fl) := by
 refine As [] [] func25 ?_;refine run ?_;exact Aq (List.range 6) (by rfl) (JZ ..) (by rfl) (by rfl) (by rfl)
theorem NR (d : Dm.Dk) (f server : Int) (k : Key) (E : List It.Entry) (fl : Nat) : AC prog 14 [.ptr 3 0] (SG d f server k E fl) (.it .i64 (Dm.flushD d f).1) (SG (Dm.flushD d f).2 f server k E (if (Dm.flushD d f).1 = 0 then E.length else fl)) := by
 refine As [] [] func14 ?_;have kw := Yc d f (AJ E);generalize Dm.flushD d f = q at *;obtain ⟨en, d'⟩ := q;simp only at kw ⊢
 refine run ?_;refine KO 0 1 2 kw ?_ (hl := OB ..);by_cases h0 : en = 0
 ·subst h0
  rw [if_pos rfl];refine run ?_;exact Aq (List.range 6) (by rfl) (JZ ..) (by rfl) (by rfl) (by rfl)
 ·rw [if_neg h0]
  refine Aa h0 ?_;exact Aq (List.range 6) (by rfl) (JZ ..) (by rfl) (by rfl) (by rfl)
theorem NN (d : Dm.Dk) (f server : Int) (k : Key) (E : List It.Entry) (fl : Nat) (hk : -9223372036854775808 ≤ k.secret ∧ k.secret ≤ 9223372036854775807) (hl : E.length ≤ 1000000) (hz : ∀ e ∈ E, Iz e.item) (hf : fl ≤ E.length) :
  AC prog 26 [.ptr 3 0] (SG d f server k E fl) (Ff (FL k server E fl)) (SG d f server k E fl) := by
 refine As [58] [] func26 ?_;have hsz : AE 50 (E.map Az) = true := Dl E;have kh := Zl k server (E.take fl) (Im (E.take fl)) hk (by rw [List.length_take]; omega) (fun e he => hz e (List.mem_of_mem_take he))
 change AC _ _ _ _ (Ff (FL k server E fl)) _ at kh;generalize FL k server E fl = hd at *;by_cases h0 : fl = 0
 ·subst h0
  refine run ?_;refine cp kh ?_;refine run ?_;exact Aq (List.range 6) (by rfl) (F1 ..) (by rfl) (by rfl) (by rfl)
 ·have hg : E[fl - 1]? = some (E[fl - 1]'(by omega)) := List.getElem?_eq_getElem (by omega)
  have hlt : (E.take fl).getLast? = E[fl - 1]? := by
   rw [List.getLast?_eq_getElem?, List.length_take, Nat.min_eq_left hf, List.getElem?_take]
   rw [if_pos (by omega)]
  have hti : Im (E.take fl) = (E[fl - 1]'(by omega)).time := by unfold Im; rw [hlt, hg]
  rw [hti] at kh;clear hlt hti;generalize (E[fl - 1]'(by omega)) = x at *
  have e1 : (fl : Int) > 0 := by omega
  have hg' : E[((fl : Int) - 1).toNat]? = some x := by rw [show ((fl : Int) - 1).toNat = fl - 1 by omega]; exact hg
  have e2 : 0 ≤ (fl : Int) - 1 := by omega
  refine Aa (A4 e1 e2 hg' hsz) ?_;refine cp kh ?_;refine run ?_;exact Aq (List.range 6) (by rfl) (F1 ..) (by rfl) (by rfl) (by rfl)
theorem OL (s : By) : ∀ (acc : List By) (i : Nat), s ∉ acc → C4 (.st s) (acc.map fun s => (.st s, .bo true)) i = some none
 | [], _, _ => rfl
 | x :: l, i, h => by
  rw [List.mem_cons, not_or] at h;rw [List.map_cons];unfold C4;simp only [FF];rw [show (s == x) = false by simpa using h.1]
  exact OL s l (i + 1) h.2
theorem Tl (s : By) : ∀ (acc : List By) (i : Nat), s ∈ acc → ∃ j, C4 (.st s) (acc.map fun s => (.st s, .bo true)) i = some (some (j, .bo true))
 | x :: l, i, h => by
  rw [List.map_cons];unfold C4;simp only [FF];by_cases hx : s = x
  ·rw [show (s == x) = true by simpa using hx]
   exact ⟨i, rfl⟩
  ·rw [show (s == x) = false by simpa using hx]
   exact Tl s l (i + 1) ((List.mem_cons.1 h).resolve_left hx)
theorem NH {o0 o1 o2 o3 o4 m : SObj} (T : Ae) (hm : m.ok 6 = true ∧ m.ren (At (List.range 6)) = m) (h0 : o0.ok 6 = true ∧ o0.ren (At (List.range 6)) = o0 := by exact ⟨rfl, rfl⟩) (h1 : o1.ok 6 = true ∧ o1.ren (At (List.range 6)) = o1 := by exact ⟨rfl, rfl⟩)
  (h2 : o2.ok 6 = true ∧ o2.ren (At (List.range 6)) = o2 := by exact ⟨rfl, rfl⟩) (h3 : o3.ok 6 = true ∧ o3.ren (At (List.range 6)) = o3 := by exact ⟨rfl, rfl⟩) (h4 : o4.ok 6 = true ∧ o4.ren (At (List.range 6)) = o4 := by exact ⟨rfl, rfl⟩) :
  SubOk (List.range 6) (o0 :: o1 :: o2 :: o3 :: o4 :: m :: T) [o0, o1, o2, o3, o4, m] := ⟨by decide, rfl, fun i o hi => by
 match i, hi with
 | 0, hi => obtain rfl : o0 = o := Option.some.inj hi; exact ⟨h0.1, congrArg some h0.2.symm⟩
 | 1, hi => obtain rfl : o1 = o := Option.some.inj hi; exact ⟨h1.1, congrArg some h1.2.symm⟩
 | 2, hi => obtain rfl : o2 = o := Option.some.inj hi; exact ⟨h2.1, congrArg some h2.2.symm⟩
 | 3, hi => obtain rfl : o3 = o := Option.some.inj hi; exact ⟨h3.1, congrArg some h3.2.symm⟩
 | 4, hi => obtain rfl : o4 = o := Option.some.inj hi; exact ⟨h4.1, congrArg some h4.2.symm⟩
 | 5, hi => obtain rfl : m = o := Option.some.inj hi; exact ⟨hm.1, congrArg some hm.2.symm⟩⟩
theorem S7 (l : List By) (x : By) : (SObj.map ((l.map fun s => (AV.st s, AV.bo true)) ++ [(.st x, .bo true)])).ok 6 = true ∧ (SObj.map ((l.map fun s => (AV.st s, AV.bo true)) ++ [(.st x, .bo true)])).ren (At (List.range 6)) = (SObj.map ((l.map fun s => (AV.st s, AV.bo true)) ++ [(.st x, .bo true)])) := by
 have h : (SObj.map ((l.map fun s => (AV.st s, AV.bo true)) ++ [(.st x, .bo true)])) = B9 (l ++ [x]) := by simp
 rw [h];exact ⟨GQ _ _, F9 _ _⟩
theorem I4 (d : Dm.Dk) (f server : Int) (k : Key) (E : List It.Entry) (fl : Nat) (it : It.Item) (now : Int) (hz : Iz it) (hl : E.length ≤ 1000000) (hs : It.right it = true → it.act.to.length ≤ 1000000 ∧ it.act.wraps.length ≤ 1000000 ∧ it.decision.to.length ≤ 1000000) :
  AC prog 12 [.ptr 3 0, Bc it, .it .i64 now] (SG d f server k E fl) (.tup [.it .i64 (BO d f E it now).1.1, .it .i64 (BO d f E it now).1.2]) (SG (BO d f E it now).2.1 f server k (BO d f E it now).2.2 fl) := by
 refine As [47, 38, 50, 48] [] func12 ?_;have k1 := H8 it hz;have hsz : AE 50 (E.map Az) = true := Dl E;unfold BO;by_cases hr : It.right it = true
 rotate_left
 ·rw [if_neg (fun h => hr h.1)]
  have hr : It.right it = false := by simpa using hr
  rw [hr] at k1;refine run ?_;refine cp k1 ?_;refine run ?_;exact Aq (List.range 6) (by rfl) (F1 ..) (by rfl) (by rfl) (by rfl)
 obtain ⟨t1, t2, t3⟩ := hs hr;rw [hr] at k1;by_cases h0 : now < 0
 ·rw [if_neg (fun h => by omega)]
  refine run ?_;refine cp k1 ?_;refine Aa h0 ?_;exact Aq (List.range 6) (by rfl) (F1 ..) (by rfl) (by rfl) (by rfl)
 by_cases h1 : now > 1099511627776
 ·rw [if_neg (fun h => by omega)]
  refine run ?_;refine cp k1 ?_;refine Aa (an h0 h1) ?_;exact Aq (List.range 6) (by rfl) (F1 ..) (by rfl) (by rfl) (by rfl)
 rw [if_pos ⟨hr, by omega⟩]
 have k2 := U0 it hz;by_cases hd : It.digest it ∈ E.map dg
 ·rw [if_pos hd]
  obtain ⟨j, hj⟩ := Tl _ _ 0 hd;generalize It.digest it = dd at *;refine run ?_;refine cp k1 ?_;refine Aa (an h0 h1) ?_;refine cp k2 ?_;refine Aa hj ?_;exact Aq (List.range 6) (by rfl) (F1 ..) (by rfl) (by rfl) (by rfl)
 rw [if_neg hd];have hj := OL _ _ 0 hd;have he : It.Entry := ⟨AN E now, it⟩;have k3 := Uz ⟨AN E now, it⟩ hz;have k4 := Rf ⟨AN E now, it⟩ t1 t2 t3;have hle := G2 ⟨AN E now, it⟩;have k5 := Yj d f (AJ E) (AB ⟨AN E now, it⟩) (by omega) (by rw [List.length_map]; omega)
 rcases List.eq_nil_or_concat E with rfl | ⟨E0, x, hEx⟩
 ·have hnx : AN [] now = now := rfl
  rw [hnx] at k3 k4 k5 hle;rw [hnx];refine run ?_;refine cp k1 ?_;refine Aa (an h0 h1) ?_;refine cp k2 ?_;refine Aa hj ?_;refine cp k4 ?_;refine Aa hj ?_;refine cp k3 ?_;refine Aa hj ?_;refine KO 0 1 2 k5 ?_ (hl := OB d f server k [] fl _);have hdg : dg ⟨now, it⟩ = It.digest it := rfl;clear k1 k2 k3 k4 k5 he hnx;generalize Bv d f (AB ⟨now, it⟩) = q at *;obtain ⟨en, d'⟩ := q;simp only
  by_cases hen : en = 0
  ·subst hen
   rw [if_pos rfl];simp only [if_true, List.nil_append];unfold SG;simp only [AJ, B9, List.map_cons, List.map_nil, List.length_cons, List.length_nil];generalize AB ⟨now, it⟩ = eb at *;refine Aa (an hj hsz) ?_;refine Aq (List.range 6) (by rfl) ?_ (by rfl) (by rfl) (by rfl)
   refine NH _ (S7 [] _) ?_ ?_ ?_ ?_ ?_ <;> exact ⟨rfl, rfl⟩
  ·rw [if_neg hen]
   simp only [if_neg hen];refine Aa hen ?_;refine Aq (List.range 6) (by rfl) ?_ (by rfl) (by rfl) (by rfl)
   refine NH _ ⟨GQ 6 [], F9 _ []⟩ ?_ ?_ ?_ ?_ ?_ <;> exact ⟨rfl, rfl⟩
 ·rw [List.concat_eq_append] at hEx
  subst hEx;have e3 : (E0 ++ [x]).length = E0.length + 1 := by simp
  have e4 : ((E0 ++ [x]).length : Int) > 0 := by omega
  have hg : (E0 ++ [x])[(((E0 ++ [x]).length : Int) - 1).toNat]? = some x := by
   rw [show (((E0 ++ [x]).length : Int) - 1).toNat = E0.length by omega]; simp
  have e5 : 0 ≤ ((E0 ++ [x]).length : Int) - 1 := by omega
  have hnx : (if x.time > now then x.time else now) = AN (E0 ++ [x]) now := by
   unfold AN;rw [List.getLast?_append]
   simp only [List.getLast?_singleton, Option.some_or]
   split <;> omega
  have hft : CX ((E0 ++ [x]).length + 1) 800 = true := by apply FM <;> omega
  clear e3;generalize E0 ++ [x] = E at *;refine run ?_;refine cp k1 ?_;refine Aa (an h0 h1) ?_;refine cp k2 ?_;refine Aa (A6 hj e4 e5 hg hsz hnx) ?_;refine cp k4 ?_;refine Aa hj ?_;refine cp k3 ?_;refine Aa hj ?_;refine KO 0 1 2 k5 ?_ (hl := OB ..);have hdg : dg ⟨AN E now, it⟩ = It.digest it := rfl;have hft2 : CX (E.length + 1) 800 = true := hft;clear k1 k2 k3 k4 k5 he hnx;generalize Bv d f (AB ⟨AN E now, it⟩) = q at *;obtain ⟨en, d'⟩ := q;simp only
  have f1 : AJ (E ++ [(⟨AN E now, it⟩ : It.Entry)]) = AJ E ++ [AB ⟨AN E now, it⟩] := by rw [AJ, List.map_append]; rfl
  have f2 : (E ++ [(⟨AN E now, it⟩ : It.Entry)]).length = E.length + 1 := by simp
  have f3 : (E ++ [(⟨AN E now, it⟩ : It.Entry)]).map Az = E.map Az ++ [Az ⟨AN E now, it⟩] := by rw [List.map_append]; rfl
  have f4 : B9 ((E ++ [(⟨AN E now, it⟩ : It.Entry)]).map dg) = .map (((E.map dg).map fun s => (AV.st s, AV.bo true)) ++ [(.st (It.digest it), .bo true)]) := by rw [List.map_append]; simp [dg]
  by_cases hen : en = 0
  ·subst hen
   rw [if_pos rfl];simp only [if_true];unfold SG;rw [f1, f2, f3, f4];generalize AN E now = nt at *;generalize It.digest it = dd at *;refine Aa (A3 hj hft hsz) ?_;refine Aq (List.range 6) (by rfl) ?_ (by rfl) (by rfl) (by rfl)
   refine NH _ (S7 _ _) ?_ ?_ ?_ ?_ ?_ <;> exact ⟨rfl, rfl⟩
  ·rw [if_neg hen]
   simp only [if_neg hen];refine Aa hen ?_;exact Aq (List.range 6) (by rfl) (F1 ..) (by rfl) (by rfl) (by rfl)
end Pe
end
section
namespace Pe
open Tryz
open Go Go.RowKit Co Sg Ac It Sl Dm Wl Ql
set_option maxRecDepth 100000
set_option maxHeartbeats 4000000
section
variable {P : Program} {pf rf : List FuncId} {e : Af} {F : FuncId} {dst : Option Nat} {rest : List AO} {K : Af → Ae → Prop}
theorem Tb (d : Dk) (f : Int) (rows : List By) : ∀ (i : Nat) (o : SObj), (LR d f rows)[i]? = some o → o.ok 3 = true := fun i o hi => by
 match i, hi with
 | 0, hi => cases hi; rfl
 | 1, hi => cases hi; rfl
 | 2, hi => cases hi; rfl
structure RlAt (T : Ae) (a b c : Nat) (d : Dk) (f : Int) (rows : List By) : Prop where
 nd : [a, b, c].Nodup
 d0 : T[a]? = some (DC b d)
 f0 : T[b]? = some (.cells (Aj d.fs))
 l0 : T[c]? = some (.cells [.ptr a 0, .it .i64 f, .sl .ro (rows.map .st)])
theorem RlAt.sub {T : Ae} {a b c : Nat} {d : Dk} {f : Int} {rows : List By} (h : RlAt T a b c d f rows) : SubOk [a, b, c] T (LR d f rows) := ⟨h.nd, rfl, fun i o hi => by
 match i, hi with
 | 0, hi => cases hi; exact ⟨rfl, h.d0⟩
 | 1, hi => cases hi; exact ⟨rfl, h.f0⟩
 | 2, hi => cases hi; exact ⟨rfl, h.l0⟩⟩
theorem AC.rl {args : List AV} {T : Ae} {d d' : Dk} {f : Int} {rows rows' : List By} {v : AV} {a b c : Nat} (hl : RlAt T a b c d f rows) (h : AC P F (.ptr 2 0 :: args) (LR d f rows) v (LR d' f rows')) (ha : args.all (AV.ok 0) = true) (hv : v.ok 0 = true) :
  AC P F (.ptr c 0 :: args) T v (((T.set a (DC b d')).set b (.cells (Aj d'.fs))).set c (.cells [.ptr a 0, .it .i64 f, .sl .ro (rows'.map .st)])) := by
 have ha1 : ∀ u ∈ args, u.ok 3 = true := fun u hu => CT (List.all_eq_true.1 ha u hu) (Nat.zero_le 3)
 have := h.frame (T := T) [a, b, c] hl.sub (by simp only [List.all_cons, Bool.and_eq_true]; exact ⟨rfl, List.all_eq_true.2 ha1⟩) (CT hv (Nat.zero_le 3)) (Tb _ _ _)
 rw [List.map_cons, F5 ha, Cn hv (fun i hi => absurd hi (Nat.not_lt_zero _))] at this
 have hM : ∀ ρ, (SObj.cells (Aj d'.fs)).ren ρ = .cells (Aj d'.fs) := fun ρ => rfl
 unfold LR at this;generalize SObj.cells (Aj d'.fs) = M at *;simp only [after, List.map_cons, List.drop_succ_cons, List.drop_zero, List.length_cons, List.length_nil, hM] at this;simpa [after, B6, ext, At, SObj.ren, AV.r1, AV.r0, Mode.ren, AV.ren, AV.r2] using this
theorem Jy {args gargs : List AV} {T : Ae} {d d' : Dk} {f : Int} {rows rows' : List By} {v : AV} (a b c : Nat) (h : AC P F (.ptr 2 0 :: args) (LR d f rows) v (LR d' f rows'))
  (h' : Bh P pf rf rest (put e dst v) (((T.set a (DC b d')).set b (.cells (Aj d'.fs))).set c (.cells [.ptr a 0, .it .i64 f, .sl .ro (rows'.map .st)])) K)
  (hl : RlAt T a b c d f rows := by exact ⟨by decide, rfl, rfl, rfl⟩) (ha : args.all (AV.ok 0) = true := by rfl) (hv : v.ok 0 = true := by rfl) (hg : gargs.map AV.wk = .ptr c 0 :: args := by rfl) :
  BL (EE P F gargs T) (CN P pf rf dst rest e K) := Au (show AC P F (gargs.map AV.wk) T v _ by rw [hg]; exact AC.rl hl h ha hv) h'
theorem AC.rlo {T : Ae} {d d' : Dk} {f : Int} {rows : List By} {a b : Nat} (hl : RdAt T a b d) (h : AC P F [.ptr 0 0, .it .i64 f] (RD d) (.tup [.ptr 2 0, .it .i64 0]) (LR d' f rows)) :
  AC P F [.ptr a 0, .it .i64 f] T (.tup [.ptr T.length 0, .it .i64 0]) (((T.set a (DC b d')).set b (.cells (Aj d'.fs))) ++ [.cells [.ptr a 0, .it .i64 f, .sl .ro (rows.map .st)]]) := by
 have := h.frame (T := T) [a, b] hl.sub rfl rfl (Tb _ _ _);have hM : ∀ ρ, (SObj.cells (Aj d'.fs)).ren ρ = .cells (Aj d'.fs) := fun ρ => rfl
 unfold LR at this;generalize SObj.cells (Aj d'.fs) = M at *;simp only [after, List.map_cons, List.drop_succ_cons, List.drop_zero, List.length_cons, List.length_nil, hM] at this;simpa [after, B6, ext, At, SObj.ren, AV.r1, AV.r0, Mode.ren, AV.ren, AV.r2] using this
theorem Zeh {gargs : List AV} {T : Ae} {d d' : Dk} {f : Int} {rows : List By} (a b : Nat) (h : AC P F [.ptr 0 0, .it .i64 f] (RD d) (.tup [.ptr 2 0, .it .i64 0]) (LR d' f rows))
  (h' : Bh P pf rf rest (put e dst (.tup [.ptr T.length 0, .it .i64 0])) (((T.set a (DC b d')).set b (.cells (Aj d'.fs))) ++ [.cells [.ptr a 0, .it .i64 f, .sl .ro (rows.map .st)]]) K)
  (hl : RdAt T a b d := by exact ⟨by decide, rfl, rfl⟩) (hg : gargs.map AV.wk = [.ptr a 0, .it .i64 f] := by rfl) :
  BL (EE P F gargs T) (CN P pf rf dst rest e K) := Au (show AC P F (gargs.map AV.wk) T _ _ by rw [hg]; exact AC.rlo hl h) h'
end
theorem Uh (l : List It.Entry) (s : By) (hl : l.length ≤ 1000000) (hz : ∀ e ∈ l, Iz e.item) : AC prog 44 [CY l, .st s] [] (.bo (decide (s ∈ l.map dg))) [] := by
 refine As [45] [] func44 ?_;have hsz := Dl l;refine run ?_;refine Bp (fun m e S => S = [] ∧ e 0 = CY l ∧ e 1 = .st s ∧ ∃ k : Nat, e 5 = .it .i64 (k : Int) ∧ s ∉ (l.take k).map dg ∧ k ≤ l.length ∧ m = l.length - k) l.length ⟨rfl, Ad, Ad, 0, Ad, by simp, by omega, rfl⟩ ?_
 rintro m e S ⟨rfl, s0, s1, k, s5, hno, hk, rfl⟩
 by_cases hlt : k < l.length
 rotate_left
 ·obtain rfl : k = l.length := by omega
  rw [List.take_length] at hno;rw [decide_eq_false hno];refine Aa (A3 s0 s1 s5) ?_;exact Ab
 have hg : l[k]? = some l[k] := List.getElem?_eq_getElem hlt
 have kd := Pa l[k].item (hz _ (List.getElem_mem hlt));by_cases hd : dg l[k] = s
 ·have hin : s ∈ l.map dg := by rw [← hd]; exact List.mem_map_of_mem (List.getElem_mem hlt)
  rw [decide_eq_true hin];have hq : (It.digest l[k].item == s) = true := by rw [show It.digest l[k].item = s from hd]; exact beq_self_eq_true _
  generalize l[k] = x at *;refine Aa (A5 s0 s1 s5 hg hsz) ?_;refine cp kd ?_;refine Aa (A4 s0 s1 s5 hq) ?_;exact Ab
 ·have hq : (It.digest l[k].item == s) = false := Dx _ _ hd
  have hno2 : s ∉ (l.take (k + 1)).map dg := by
   rw [List.take_succ_eq_append_getElem hlt, List.map_append];intro h;rcases List.mem_append.1 h with h | h
   ·exact hno h
   ·exact hd (List.mem_singleton.1 h).symm
  generalize l[k] = x at *;refine Aa (A5 s0 s1 s5 hg hsz) ?_;refine cp kd ?_;refine Aa (A4 s0 s1 s5 hq) ?_;exact AG (l.length - (k + 1)) (by omega) ⟨rfl, Ad, Ad, k + 1, Ad, hno2, by omega, rfl⟩
abbrev RL (d : Dk) (f server : Int) (k : Key) (E : List It.Entry) (fl : Nat) : Ae := [DC 1 d, .cells (Aj d.fs), .cells [.ptr 0 0, .it .i64 f, .sl .ro ((AJ E).map .st)], .cells [.ptr 2 0, .it .i64 server, .it .i64 k.secret, .it .i64 k.pub, .sl .ro (E.map Az), .it .i64 (fl : Int)]]
theorem E7 (d : Dk) (f server : Int) (k : Key) (E : List It.Entry) (fl : Nat) (T : Ae) : SubOk (List.range 4) (RL d f server k E fl ++ T) (RL d f server k E fl) := ⟨by decide, rfl, fun i o hi => by
 match i, hi with
 | 0, hi => cases hi; exact ⟨rfl, rfl⟩
 | 1, hi => cases hi; exact ⟨rfl, rfl⟩
 | 2, hi => cases hi; exact ⟨rfl, rfl⟩
 | 3, hi => cases hi; exact ⟨rfl, rfl⟩⟩
theorem RG (d : Dk) (f server : Int) (k : Key) (E : List It.Entry) (fl : Nat) : SubOk (List.range 4) (RL d f server k E fl) (RL d f server k E fl) := by
 have := E7 d f server k E fl [];rwa [List.append_nil] at this
theorem RH (d : Dk) (f server : Int) (k : Key) (E : List It.Entry) (fl : Nat) : ∀ (i : Nat) (o : SObj), (RL d f server k E fl)[i]? = some o → o.ok 4 = true := fun i o hi => by
 match i, hi with
 | 0, hi => cases hi; rfl
 | 1, hi => cases hi; rfl
 | 2, hi => cases hi; rfl
 | 3, hi => cases hi; rfl
theorem Rn (d : Dk) (ho : Ok d) (h0 : d.armed = 0) (f server : Int) (k : Key) (E : List It.Entry) (fl : Nat) : AC prog 15 [.ptr 3 0] (RL d f server k E fl) (.it .i64 (flushD d f).1) (RL (flushD d f).2 f server k E (if (flushD d f).1 = 0 then E.length else fl)) := by
 refine As [] [] func15 ?_;have kw := Zag d ho h0 f (AJ E);generalize flushD d f = q at *;obtain ⟨en, d'⟩ := q;simp only at kw ⊢
 refine run ?_;refine Jy 0 1 2 kw ?_;by_cases h0 : en = 0
 ·subst h0
  rw [if_pos rfl];refine run ?_;exact Aq (List.range 4) (by rfl) (RG ..) (by rfl) (by rfl) (by rfl)
 ·rw [if_neg h0]
  refine Aa h0 ?_;exact Aq (List.range 4) (by rfl) (RG ..) (by rfl) (by rfl) (by rfl)
theorem ZM (d : Dk) (f server : Int) (k : Key) (E : List It.Entry) (fl : Nat) (hk : -9223372036854775808 ≤ k.secret ∧ k.secret ≤ 9223372036854775807) (hl : E.length ≤ 1000000) (hz : ∀ e ∈ E, Iz e.item) (hf : fl ≤ E.length) :
  AC prog 27 [.ptr 3 0] (RL d f server k E fl) (Ff (FL k server E fl)) (RL d f server k E fl) := by
 refine As [59] [] func27 ?_;have hsz : AE 50 (E.map Az) = true := Dl E;have kh := Zda k server (E.take fl) (Im (E.take fl)) hk (by rw [List.length_take]; omega) (fun e he => hz e (List.mem_of_mem_take he))
 change AC _ _ _ _ (Ff (FL k server E fl)) _ at kh;generalize FL k server E fl = hd at *;by_cases h0 : fl = 0
 ·subst h0
  refine run ?_;refine cp kh ?_;refine run ?_;exact Aq (List.range 4) (by rfl) (E7 d f server k E 0 _) (by rfl) (by rfl) (by rfl)
 ·have hg : E[fl - 1]? = some (E[fl - 1]'(by omega)) := List.getElem?_eq_getElem (by omega)
  have hlt : (E.take fl).getLast? = E[fl - 1]? := by
   rw [List.getLast?_eq_getElem?, List.length_take, Nat.min_eq_left hf, List.getElem?_take]
   rw [if_pos (by omega)]
  have hti : Im (E.take fl) = (E[fl - 1]'(by omega)).time := by unfold Im; rw [hlt, hg]
  rw [hti] at kh;clear hlt hti;generalize (E[fl - 1]'(by omega)) = x at *
  have e1 : (fl : Int) > 0 := by omega
  have hg' : E[((fl : Int) - 1).toNat]? = some x := by rw [show ((fl : Int) - 1).toNat = fl - 1 by omega]; exact hg
  have e2 : 0 ≤ (fl : Int) - 1 := by omega
  refine Aa (A4 e1 e2 hg' hsz) ?_;refine cp kh ?_;refine run ?_;exact Aq (List.range 4) (by rfl) (E7 d f server k E fl _) (by rfl) (by rfl) (by rfl)
def Ch (E : List It.Entry) (frm : Int) (i : Nat) : List It.Entry := (E.take i).drop frm.toNat
theorem ZcZ {E : List It.Entry} {frm : Int} {i : Nat} (h : i < E.length) : Ch E frm (i + 1) = if frm ≤ (i : Int) then Ch E frm i ++ [E[i]] else Ch E frm i := by
 unfold Ch;rw [List.take_succ_eq_append_getElem h];have hl : (E.take i).length = i := by rw [List.length_take]; omega
 split
 ·rw [List.drop_append_of_le_length (by omega)]
 ·rw [List.drop_eq_nil_of_le (by rw [List.length_append, hl, List.length_singleton]; omega), List.drop_eq_nil_of_le (by omega)]
theorem Ro (d : Dk) (f server : Int) (k : Key) (E : List It.Entry) (fl : Nat) (frm n : Int) (hl : E.length ≤ 1000000) (hf : fl ≤ E.length) :
  AC prog 24 [.ptr 3 0, .it .i64 frm, .it .i64 n] (RL d f server k E fl) (CY (DI E fl frm n)) (RL d f server k E fl) := by
 refine As [] [] func24 ?_;have hsz : AE 50 (E.map Az) = true := Dl E;have hw0 : DI E fl frm n = if n ≤ 0 then [] else ((E.take fl).drop frm.toNat).take n.toNat := rfl
 refine run ?_;refine Eg (fun m e S => e 0 = .ptr 3 0 ∧ e 1 = .it .i64 frm ∧ e 2 = .it .i64 n ∧ ∃ (i : Nat) (T : Ae), e 8 = .it .i64 (i : Int) ∧ e 7 = .sl (.own 4) ((Ch E frm i).map Az) ∧ S = RL d f server k E fl ++ (.buf (Ch E frm i).length 82 50 :: T) ∧ i ≤ fl ∧ (i = 0 ∨ ((Ch E frm i).length : Int) ≤ n) ∧ m = fl - i) fl _ _ (Ay.reserve 4 7 (es := []) (by rfl) 82 50)
  ⟨Ad, Ad, Ad, 0, [], Ad, (by unfold Ch; rw [List.take_zero, List.drop_nil]; exact Ad), (by unfold Ch; rw [List.take_zero, List.drop_nil]; rfl), Nat.zero_le _, .inl rfl, rfl⟩ ?_
 rintro m e S ⟨s0, s1, s2, i, T, s8, s7, rfl, hi, hb, rfl⟩
 have hfl : Ch E frm i = ((E.take fl).drop frm.toNat).take (i - frm.toNat) := by
  unfold Ch;rw [← List.drop_take, List.take_take, Nat.min_eq_left hi]
 have hfe : ((Ch E frm i).length : Int) = ((i - frm.toNat : Nat) : Int) := by
  unfold Ch;rw [List.length_drop, List.length_take, Nat.min_eq_left (by omega)]
 by_cases hlt : i < fl ∧ ((Ch E frm i).length : Int) < n
 ·obtain ⟨h1, h2⟩ := hlt
  have hg : E[i]? = some (E[i]'(by omega)) := List.getElem?_eq_getElem (by omega)
  have hnx := ZcZ (E := E) (frm := frm) (i := i) (by omega)
  have hfsz : AE 50 ((Ch E frm i).map Az) = true := Dl _;have hft : CX ((Ch E frm i).length + 1) 800 = true := by apply FM <;> omega
  generalize (E[i]'(by omega)) = x at *
  generalize hfd : Ch E frm i = Fd at *;by_cases hge : (i : Int) ≥ frm
  ·rw [if_pos hge] at hnx
   have hmp : (Fd ++ [x]).map Az = Fd.map Az ++ [Az x] := by rw [List.map_append]; rfl
   have hln : (Fd ++ [x]).length = Fd.length + 1 := by simp
   refine Aa (an s0 (Bg s1 s2 s8 s7 h1 h2 hge hg hsz hfsz hft)) ?_;exact AG (fl - (i + 1)) (by omega) ⟨Ad, Ad, Ad, i + 1, T, Ad, (by rw [hnx, hmp]; exact Ad), (by rw [hnx, hln]), by omega, .inr (by rw [hnx, hln]; omega), rfl⟩
  ·rw [if_neg hge] at hnx
   refine Aa (A8 s0 s1 s2 s8 s7 h1 h2 hge) ?_;exact AG (fl - (i + 1)) (by omega) ⟨Ad, Ad, Ad, i + 1, T, Ad, (by rw [hnx]; exact Ad), (by rw [hnx]), by omega, .inr (by rw [hnx]; omega), rfl⟩
 ·have hres : Ch E frm i = DI E fl frm n := by
   rw [hw0];by_cases hif : i = fl
   ·subst hif
    by_cases hn : n ≤ 0
    ·rw [if_pos hn]
     rcases hb with hb | hb
     ·subst hb; unfold Ch; rw [List.take_zero, List.drop_nil]
     ·exact List.eq_nil_of_length_eq_zero (by omega)
    ·rw [if_neg hn]
     have : Ch E frm i = (E.take i).drop frm.toNat := rfl;rw [← this, List.take_of_length_le];rcases hb with hb | hb
     ·subst hb; unfold Ch; rw [List.take_zero, List.drop_nil]; exact Nat.zero_le _
     ·omega
   ·have h2 : ¬ ((Ch E frm i).length : Int) < n := fun h => hlt ⟨by omega, h⟩
    by_cases hn : n ≤ 0
    ·rw [if_pos hn]
     rcases hb with hb | hb
     ·subst hb; unfold Ch; rw [List.take_zero, List.drop_nil]
     ·exact List.eq_nil_of_length_eq_zero (by omega)
    ·rw [if_neg hn, hfl]
     rcases hb with hb | hb
     ·subst hb
      exfalso; apply h2; rw [hfe]; omega
     ·rw [show i - frm.toNat = n.toNat by omega]
  rw [← hres];generalize hfd : Ch E frm i = Fd at *;by_cases h1 : i < fl
  ·have h2 : ¬ (Fd.length : Int) < n := fun h => hlt ⟨h1, h⟩
   refine Aa (A7 s0 s1 s2 s8 s7 h1 h2) ?_;exact Pc (List.range 4) (by rfl) (E7 d f server k E fl (_ :: T)) (by rfl) (by rfl) (by rfl)
  ·have h1' : ¬ (i : Int) < (fl : Int) := by omega
   refine Aa (A6 s0 s1 s2 s8 s7 h1') ?_;exact Pc (List.range 4) (by rfl) (E7 d f server k E fl (_ :: T)) (by rfl) (by rfl) (by rfl)
end Pe
end
section
namespace Pe
open Tryz
open Go Go.RowKit Co Sg Ac It Sl Wl Ql
set_option maxRecDepth 100000
set_option maxHeartbeats 4000000
theorem Pd {P : Program} [Tab] {rs : List ResultVar} {v : AV} {e : Af} {S S' : Ae} {vs : List AV} {N0 : Nat} (κ : List Nat) (h : CM P rs e S = some vs) (hs : SubOk κ S S') (hn : κ.take N0 = List.range N0) (hk : v.ok κ.length = true) (hv : (Dh vs).wk = v.ren (At κ)) : C6 P rs N0 v S' .ret e S :=
 ⟨e, S, vs, κ, Ay.refl N0 e S, h, hs, hn, hk, .inr hv⟩
theorem Jb {i : It.Item} (h : It.right i = true) : i.act.to.length ≤ 1000000 ∧ i.act.wraps.length ≤ 1000000 ∧ i.decision.to.length ≤ 1000000 := by
 have p := Mc h;have d := (MM p.2.2.2).2.1.1;rcases p.1 with e | e
 ·have h1 := (Et e).to.1
  have h2 := (Et e).wraps.1;omega
 ·have h1 : i.act.to = [] := by rw [e]; rfl
  have h2 : i.act.wraps = [] := by rw [e]; rfl
  rw [h1, h2];simp only [List.length_nil];omega
theorem QY (d : Dm.Dk) (f server : Int) (k : Key) (E : List It.Entry) (fl : Nat) (o : SObj) (T : Ae) : SubOk [0, 2, 3, 5, 6, 4] (XD d :: o :: .cells [.ptr 0 0, .it .i64 f, .sl (.own 3) ((AJ E).map .st)] :: .buf E.length 9 1 :: B9 (E.map dg) :: .cells [.ptr 2 0, .it .i64 server, .it .i64 k.secret, .it .i64 k.pub, .sl (.own 6) (E.map Az), .mp 4, .it .i64 (fl : Int)] :: .buf E.length 82 50 :: T) (SG d f server k E fl) := ⟨by decide, rfl, fun i o hi => by
 match i, hi with
 | 0, hi => cases hi; exact ⟨rfl, rfl⟩
 | 1, hi => cases hi; exact ⟨rfl, rfl⟩
 | 2, hi => cases hi; exact ⟨rfl, rfl⟩
 | 3, hi => cases hi; exact ⟨rfl, rfl⟩
 | 4, hi => cases hi; exact ⟨rfl, rfl⟩
 | 5, hi => cases hi; exact ⟨GQ _ _, congrArg some (F9 _ _).symm⟩⟩
theorem YW (d d' : Dm.Dk) (f server : Int) (k : Key) (hk : k.right = true) (hr : -9223372036854775808 ≤ k.secret ∧ k.secret ≤ 9223372036854775807) (hs : 0 ≤ server ∧ server ≤ 19) (hf : 0 ≤ f ∧ f ≤ 6) (he : AU d f = (0, d')) (hp : (Dm.peek d f).1 = []) :
  AC prog 9 [.ptr 0 0, .it .i64 f, .it .i64 server, Cr k] [XD d] (.tup [.ptr 3 0, .it .i64 0]) (SG d' f server k [] 0) := by
 refine As [34, 37, 38, 39] [] func9 ?_;have k1 := Io k hr;rw [hk] at k1;have k2 := Qh d f hf (by rw [hp]; decide) (by rw [he])
 rw [he, hp] at k2;change AC _ _ _ _ _ (LG d' f []) at k2;have k3 := Qp d' f [] (by decide)
 have k4 := QR [] (by decide)
 change AC _ _ _ _ (.bo true) _ at k4;have e1 : ¬ server < 0 := by omega
 have e2 : ¬ server ≥ 20 := by omega
 refine Aa (an e1 e2) ?_;refine cp k1 ?_;refine Aa (an e1 e2) ?_;refine Ey 0 k2 ?_;refine run ?_;refine KO 0 2 3 k3 ?_;refine run ?_;refine Eg (fun m e S => e 12 = .ptr 5 0 ∧ e 48 = .sl .ro [] ∧ e 49 = .it .i64 0 ∧ e 50 = .it .i64 0 ∧ S = (XD d' :: .cells [.it .i64 k.secret, .it .i64 k.pub] :: .cells [.ptr 0 0, .it .i64 f, .sl (.own 3) ((AJ []).map .st)] :: .buf ([] : List It.Entry).length 9 1 :: B9 (([] : List It.Entry).map dg) :: .cells [.ptr 2 0, .it .i64 server, .it .i64 k.secret, .it .i64 k.pub, .sl (.own 6) (([] : List It.Entry).map Az), .mp 4, .it .i64 ((0 : Nat) : Int)] :: .buf ([] : List It.Entry).length 82 50 :: []) ∧ m = 0) 0 _ _ (Ay.reserveN 1 5 4 (es := []) (by rfl) (by rfl) 82 50) ⟨Ad, Ad, Ad, Ad, rfl, rfl⟩ ?_
 rintro m e S ⟨s12, s48, s49, s50, rfl, rfl⟩
 refine Aa (A4 s12 s48 s49 s50) ?_;refine cp k4 ?_;refine Aa s12 ?_;refine Aq [0, 2, 3, 5, 6, 4] (by rfl) ?_ (by rfl) (by rfl) (by rfl)
 exact QY d' f server k [] 0 _ []
theorem NT (d : Dm.Dk) (f server : Int) (k : Key) (E : List It.Entry) (fl : Nat) (frm n : Int) (hl : E.length ≤ 1000000) (hf : fl ≤ E.length) (hz : ∀ e ∈ E, It.right e.item = true) :
  AC prog 23 [.ptr 3 0, .it .i64 frm, .it .i64 n] (SG d f server k E fl) (CY (DI E fl frm n)) (SG d f server k E fl) := by
 refine As [48] [] func23 ?_;have hsz : AE 50 (E.map Az) = true := Dl E;have e0 : (if 0 > frm then 0 else frm) = (frm.toNat : Int) := by split <;> omega
 have hw0 : DI E fl frm n = if n ≤ 0 then [] else ((E.take fl).drop frm.toNat).take n.toNat := rfl
 generalize frm.toNat = a at *;by_cases ha : fl ≤ a
 ·have hw : DI E fl frm n = [] := by
   rw [hw0];split
   ·rfl
   ·rw [List.drop_eq_nil_of_le (by rw [List.length_take]; omega), List.take_nil]
  rw [hw];have e1 : (a : Int) ≥ (fl : Int) := by omega
  refine Aa (an e0 e1) ?_;exact Pd (List.range 6) (by rfl) (JZ ..) (by rfl) (by rfl) (by rfl)
 have e1 : ¬ (a : Int) ≥ (fl : Int) := by omega
 by_cases hn : n ≤ 0
 ·rw [if_pos hn] at hw0
  rw [hw0];refine Aa (A3 e0 e1 hn) ?_;exact Pd (List.range 6) (by rfl) (JZ ..) (by rfl) (by rfl) (by rfl)
 rw [if_neg hn] at hw0;have hmn : (if (fl : Int) - (a : Int) < n then (fl : Int) - (a : Int) else n) = ((min n.toNat (fl - a) : Nat) : Int) := by split <;> omega
 generalize hb : min n.toNat (fl - a) = b at *;have hww : DI E fl frm n = (E.drop a).take b := by
  rw [hw0, List.drop_take, List.take_take, hb]
 rw [hww];have e2 : (a : Int) + (b : Int) = ((a + b : Nat) : Int) := by omega
 have e3 : a + b ≤ E.length := by omega
 have e4 : a ≤ a + b := by omega
 have hdt : (E.take (a + b)).drop a = (E.drop a).take b := by rw [List.drop_take]; congr 1; omega
 refine Aa (A9 e0 e1 hn hmn e2 e3 e4 hsz hdt) ?_;have hWl : ((E.drop a).take b).length = b := by rw [List.length_take, List.length_drop]; omega
 have hzW : ∀ e ∈ (E.drop a).take b, It.right e.item = true := fun e he => hz e (List.mem_of_mem_drop (List.mem_of_mem_take he))
 clear hww hdt hw0;generalize (E.drop a).take b = W at *;have hsW : AE 50 (W.map Az) = true := Dl W;refine Bp (fun m e S => e 40 = CY W ∧ e 41 = .it .i64 (W.length : Int) ∧ ∃ (j : Nat) (T : Ae), e 42 = .it .i64 (j : Int) ∧ e 7 = .sl (.own 6) ((W.take j).map Az) ∧ S = SG d f server k E fl ++ (.buf j 82 50 :: T) ∧ j ≤ W.length ∧ m = W.length - j) W.length
  ⟨Ad, Ad, 0, [], Ad, Ad, rfl, Nat.zero_le _, rfl⟩ ?_
 rintro m e S ⟨s40, s41, j, T, s42, s7, rfl, hj, rfl⟩
 have hT1 : ∀ y : SObj, (T ++ [y])[T.length]? = some y := fun y => by simp
 have hT2 : ∀ y z : SObj, (T ++ [y]).set T.length z = T ++ [z] := fun y z => by simp
 by_cases hlt : j < W.length
 ·have hg : W[j]? = some W[j] := List.getElem?_eq_getElem hlt
  have hx := hzW W[j] (List.getElem_mem hlt);have ht : (W.take (j + 1)).map Az = (W.take j).map Az ++ [Az W[j]] := by rw [List.take_succ_eq_append_getElem hlt, List.map_append]; rfl
  have hal : (W.take j).length = j := by rw [List.length_take]; omega
  have hft : CX (j + 1) 800 = true := by apply FM <;> omega
  generalize W[j] = x at *;obtain ⟨t1, t2, t3⟩ := Jb hx;have kc := Rf x t1 t2 t3;refine Aa (A8 s40 s41 s42 s7 hg hsW hT1 hT2) ?_;refine cp kc ?_;have hsz3 := Dl (W.take j);refine Aa (A7 s40 s41 s42 s7 hft hal hsz3) ?_;exact AG (W.length - (j + 1)) (by omega) ⟨Ad, Ad, j + 1, _, Ad, (by rw [ht]; exact Ad), rfl, by omega, rfl⟩
 ·obtain rfl : j = W.length := by omega
  rw [List.take_length] at s7;refine Aa (A4 s40 s41 s42 s7) ?_;exact Pd (List.range 6) (by rfl) (F1 d f server k E fl (_ :: T)) (by rfl) (by rfl) (by rfl)
end Pe
end
section
namespace Pe
open Tryz
open Go Go.RowKit Co Sg Ac It Sl Wl Ql
set_option maxRecDepth 100000
set_option maxHeartbeats 4000000
section
variable {P : Program} {pf rf : List FuncId} {e : Af} {F : FuncId} {dst : Option Nat} {rest : List AO} {K : Af → Ae → Prop}
structure SgAt (T : Ae) (a b c s u m : Nat) (d : Dm.Dk) (f server : Int) (k : Key) (E : List It.Entry) (fl : Nat) : Prop where
 nd : [a, b, c, s, u, m].Nodup
 p0 : T[a]? = some (XD d)
 p1 : T[b]? = some (.cells [.ptr a 0, .it .i64 f, .sl (.own c) ((AJ E).map .st)])
 p2 : T[c]? = some (.buf E.length 9 1)
 p3 : T[s]? = some (.cells [.ptr b 0, .it .i64 server, .it .i64 k.secret, .it .i64 k.pub, .sl (.own u) (E.map Az), .mp m, .it .i64 (fl : Int)])
 p4 : T[u]? = some (.buf E.length 82 50)
 p5 : T[m]? = some (B9 (E.map dg))
theorem SgAt.sub {T : Ae} {a b c s u m : Nat} {d : Dm.Dk} {f server : Int} {k : Key} {E : List It.Entry} {fl : Nat} (h : SgAt T a b c s u m d f server k E fl) : SubOk [a, b, c, s, u, m] T (SG d f server k E fl) := ⟨h.nd, rfl, fun i o hi => by
 match i, hi with
 | 0, hi => cases hi; exact ⟨rfl, h.p0⟩
 | 1, hi => cases hi; exact ⟨rfl, h.p1⟩
 | 2, hi => cases hi; exact ⟨rfl, h.p2⟩
 | 3, hi => cases hi; exact ⟨rfl, h.p3⟩
 | 4, hi => cases hi; exact ⟨rfl, h.p4⟩
 | 5, hi => cases hi; exact ⟨GQ _ _, h.p5.trans (congrArg some (F9 _ _).symm)⟩⟩
theorem AC.sgs {args : List AV} {T : Ae} {d d' : Dm.Dk} {f server : Int} {k : Key} {E E' : List It.Entry} {fl fl' : Nat} {v : AV} {a b c s u m : Nat} (hl : SgAt T a b c s u m d f server k E fl) (h : AC P F (.ptr 3 0 :: args) (SG d f server k E fl) v (SG d' f server k E' fl'))
  (ha : args.all (AV.ok 0) = true) (hv : v.ok 0 = true) : AC P F (.ptr s 0 :: args) T v ((((((T.set a (XD d')).set b (.cells [.ptr a 0, .it .i64 f, .sl (.own c) ((AJ E').map .st)])).set c (.buf E'.length 9 1)).set s (.cells [.ptr b 0, .it .i64 server, .it .i64 k.secret, .it .i64 k.pub, .sl (.own u) (E'.map Az), .mp m, .it .i64 (fl' : Int)])).set u (.buf E'.length 82 50)).set m (B9 (E'.map dg))) := by
 have ha1 : ∀ w ∈ args, w.ok 6 = true := fun w hw => CT (List.all_eq_true.1 ha w hw) (Nat.zero_le 6)
 have := h.frame (T := T) [a, b, c, s, u, m] hl.sub (by simp only [List.all_cons, Bool.and_eq_true]; exact ⟨rfl, List.all_eq_true.2 ha1⟩) (CT hv (Nat.zero_le 6)) (Q9 _ _ _ _ _ _)
 rw [List.map_cons, F5 ha, Cn hv (fun i hi => absurd hi (Nat.not_lt_zero _))] at this
 have hM : ∀ ρ, (B9 (E'.map dg)).ren ρ = B9 (E'.map dg) := fun ρ => F9 ρ _
 unfold SG at this;generalize B9 (E'.map dg) = M at *;simp only [after, List.map_cons, List.drop_succ_cons, List.drop_zero, List.length_cons, List.length_nil, hM] at this;simpa [after, B6, ext, At, SObj.ren, AV.r1, AV.r0, Mode.ren, AV.ren, AV.r2] using this
theorem Ej {args gargs : List AV} {T : Ae} {d d' : Dm.Dk} {f server : Int} {k : Key} {E E' : List It.Entry} {fl fl' : Nat} {v : AV} (a b c s u m : Nat) (h : AC P F (.ptr 3 0 :: args) (SG d f server k E fl) v (SG d' f server k E' fl'))
  (h' : Bh P pf rf rest (put e dst v) ((((((T.set a (XD d')).set b (.cells [.ptr a 0, .it .i64 f, .sl (.own c) ((AJ E').map .st)])).set c (.buf E'.length 9 1)).set s (.cells [.ptr b 0, .it .i64 server, .it .i64 k.secret, .it .i64 k.pub, .sl (.own u) (E'.map Az), .mp m, .it .i64 (fl' : Int)])).set u (.buf E'.length 82 50)).set m (B9 (E'.map dg))) K)
  (hl : SgAt T a b c s u m d f server k E fl := by exact ⟨by decide, rfl, rfl, rfl, rfl, rfl, rfl⟩) (ha : args.all (AV.ok 0) = true := by rfl) (hv : v.ok 0 = true := by rfl) (hg : gargs.map AV.wk = .ptr s 0 :: args := by rfl) :
  BL (EE P F gargs T) (CN P pf rf dst rest e K) := Au (show AC P F (gargs.map AV.wk) T v _ by rw [hg]; exact AC.sgs hl h ha hv) h'
theorem AC.so {T : Ae} {d d' : Dm.Dk} {f server : Int} {k : Key} {E : List It.Entry} {fl : Nat} {a : Nat} (hT : T[a]? = some (XD d)) (h : AC P F [.ptr 0 0, .it .i64 f, .it .i64 server, Cr k] [XD d] (.tup [.ptr 3 0, .it .i64 0]) (SG d' f server k E fl)) :
  AC P F [.ptr a 0, .it .i64 f, .it .i64 server, Cr k] T (.tup [.ptr (T.length + 2) 0, .it .i64 0]) (T.set a (XD d') ++ [.cells [.ptr a 0, .it .i64 f, .sl (.own (T.length + 1)) ((AJ E).map .st)], .buf E.length 9 1, .cells [.ptr T.length 0, .it .i64 server, .it .i64 k.secret, .it .i64 k.pub, .sl (.own (T.length + 3)) (E.map Az), .mp (T.length + 4), .it .i64 (fl : Int)], .buf E.length 82 50, B9 (E.map dg)]) := by
 have := h.frame (T := T) [a] (EI a rfl hT) rfl rfl (Q9 _ _ _ _ _ _);have hM : ∀ ρ, (B9 (E.map dg)).ren ρ = B9 (E.map dg) := fun ρ => F9 ρ _
 unfold SG at this;generalize B9 (E.map dg) = M at *;simp only [after, List.map_cons, List.drop_succ_cons, List.drop_zero, List.length_cons, List.length_nil, hM] at this;simpa [after, B6, ext, At, SObj.ren, AV.r1, AV.r0, Mode.ren, AV.ren, AV.r2] using this
theorem Pr {gargs : List AV} {T : Ae} {d d' : Dm.Dk} {f server : Int} {k : Key} {E : List It.Entry} {fl : Nat} (a : Nat) (h : AC P F [.ptr 0 0, .it .i64 f, .it .i64 server, Cr k] [XD d] (.tup [.ptr 3 0, .it .i64 0]) (SG d' f server k E fl))
  (h' : Bh P pf rf rest (put e dst (.tup [.ptr (T.length + 2) 0, .it .i64 0])) (T.set a (XD d') ++ [.cells [.ptr a 0, .it .i64 f, .sl (.own (T.length + 1)) ((AJ E).map .st)], .buf E.length 9 1, .cells [.ptr T.length 0, .it .i64 server, .it .i64 k.secret, .it .i64 k.pub, .sl (.own (T.length + 3)) (E.map Az), .mp (T.length + 4), .it .i64 (fl : Int)], .buf E.length 82 50, B9 (E.map dg)]) K)
  (hT : T[a]? = some (XD d) := by rfl) (hg : gargs.map AV.wk = [.ptr a 0, .it .i64 f, .it .i64 server, Cr k] := by rfl) :
  BL (EE P F gargs T) (CN P pf rf dst rest e K) := Au (show AC P F (gargs.map AV.wk) T _ _ by rw [hg]; exact AC.so hT h) h'
end
end Pe
end
section
namespace Wl
open Tryz
open Go Co Dm
structure WS (d : Dk) (R safe : List By) : Prop where
 up : d.down = false
 ok : Dm.Ok d
 data : (d.fs 2).data = Ar R
 okR : DO R
 pre : ∃ t, R = safe ++ t
 dur : (Ar safe).length ≤ (d.fs 2).dur
structure Hp (d : Dk) (all safe : List By) : Prop where
 down : d.down = true
 ok : Dm.Ok d
 all : ∃ t, all = AD (d.fs 2).data ++ t
 safe : ∃ t, AD (d.fs 2).data = safe ++ t
section
variable {d : Dk} {R safe : List By}
theorem YL (d : Dk) : (strikes d).2.fs = d.fs ∧ (strikes d).2.down = d.down ∧ (strikes d).2.lost = d.lost := by unfold strikes; split <;> exact ⟨rfl, rfl, rfl⟩
theorem T2 (d : Dk) (f : Int) : flushD d f = (if (beginD d [f]).1 ≠ 0 then beginD d [f] else if 0 < (beginD d [f]).2.lost then (18, { (beginD d [f]).2 with lost := (beginD d [f]).2.lost - 1 }) else
  (0, { (beginD d [f]).2 with fs := upd (beginD d [f]).2.fs f.toNat ⟨((beginD d [f]).2.fs f.toNat).data, ((beginD d [f]).2.fs f.toNat).data.length⟩ })) := rfl
theorem Zeg (d : Dk) (f n : Int) : cutD d f n = (if (beginD d [f]).1 ≠ 0 then beginD d [f] else if n < 0 ∨ (size (beginD d [f]).2 f : Int) < n then (1, (beginD d [f]).2) else
  (0, { (beginD d [f]).2 with fs := upd (beginD d [f]).2.fs f.toNat (((beginD d [f]).2.fs f.toNat).trunc n.toNat) })) := rfl
end
end Wl
end
end Go.Proofs.YtldohjjoicmfpaaGreatDoor
