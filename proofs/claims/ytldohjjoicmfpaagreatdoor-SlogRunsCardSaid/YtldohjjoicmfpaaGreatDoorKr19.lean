/- A part. -/
import Derived.Test.YtldohjjoicmfpaaGreatDoorKr18
set_option linter.unusedSectionVars false
set_option linter.unusedVariables false
set_option linter.unusedSimpArgs false
namespace Go.Proofs.YtldohjjoicmfpaaGreatDoor
section
namespace Ql
open Tryz
open Go Co Sg Ac It Sl Wl
structure Good (E : List It.Entry) : Prop where
 right : ∀ e ∈ E, isTime e.time = true ∧ It.right e.item = true
 nodup : (E.map dg).Nodup
 times : times E = true
theorem Good.nil : Good [] := ⟨fun e he => absurd he (by simp), List.nodup_nil, rfl⟩
theorem Good.take {E : List It.Entry} (h : Good E) (n : Nat) : Good (E.take n) :=
 ⟨fun e he => h.right e (List.mem_of_mem_take he), by rw [List.map_take]; exact h.nodup.sublist (List.take_sublist _ _), YA h.times n⟩
theorem YB {E : List It.Entry} {e : It.Entry} (h : times E = true) (hl : ∀ x, E.getLast? = some x → x.time ≤ e.time) : times (E ++ [e]) = true := by
 rw [HW];intro j hj;rw [List.length_append, List.length_singleton] at hj;by_cases hje : j + 1 < E.length
 ·rw [List.getElem_append_left (by omega), List.getElem_append_left hje]
  exact HW.1 h j hje
 ·have hj2 : j + 1 = E.length := by omega
  rw [List.getElem_append_left (by omega), List.getElem_append_right (by omega)]
  simp only [hj2, Nat.sub_self, List.getElem_cons_zero];refine hl _ ?_
  rw [List.getLast?_eq_getElem?]
  rw [show E.length - 1 = j by omega]
  exact List.getElem?_eq_getElem (by omega)
theorem Zb0 (E : List It.Entry) (now : Int) : ∀ x, E.getLast? = some x → x.time ≤ AN E now := fun x hx => by
 unfold AN; rw [hx]; exact Int.le_max_right _ _
theorem ZbZ {E : List It.Entry} {now : Int} (hr : ∀ e ∈ E, isTime e.time = true ∧ It.right e.item = true) (h : 0 ≤ now ∧ now ≤ 1099511627776) : isTime (AN E now) = true := by
 unfold AN;split
 ·exact AZ.2 h
 ·rename_i e he
  have := AZ.1 (hr e (List.mem_of_getLast? he)).1;refine AZ.2 ?_
  omega
theorem Good.snoc {E : List It.Entry} (h : Good E) {it : It.Item} {now : Int} (hi : It.right it = true) (hn : 0 ≤ now ∧ now ≤ 1099511627776) (hd : It.digest it ∉ E.map dg) : Good (E ++ [⟨AN E now, it⟩]) := by
 refine ⟨fun e he => ?_, ?_, YB h.times (Zb0 E now)⟩
 ·rcases List.mem_append.1 he with he | he
  ·exact h.right e he
  ·rw [List.mem_singleton.1 he]; exact ⟨ZbZ h.right hn, hi⟩
 ·rw [List.map_append, List.nodup_append]
  refine ⟨h.nodup, by simp, fun a ha b hb => ?_⟩
  simp only [List.map_cons, List.map_nil, List.mem_singleton] at hb;rintro rfl
  rw [hb] at ha;exact hd ha
theorem ZV {E : List It.Entry} : DO (AJ E) := fun s hs => by
 obtain ⟨e, _, rfl⟩ := List.mem_map.1 hs;have := ZdD e;omega
structure QS (d : Dm.Dk) (E : List It.Entry) (fl : Nat) : Prop where
 ws : WS d (AJ E) (AJ (E.take fl))
 armed : d.armed = 0
 good : Good E
 le : fl ≤ E.length
section
variable {d : Dm.Dk} {E : List It.Entry} {fl : Nat}
theorem Ys (h : d.armed = 0) : Dm.strikes d = (false, d) := by unfold Dm.strikes; rw [if_pos h]
theorem Ll (h : d.armed = 0) (e : Int) : Dm.struck d e = (e, d) := by unfold Dm.struck; rw [Ys h]; rfl
theorem Zha (h : d.armed = 0) (hu : d.down = false) : (Dm.flushD d 2).2.armed = 0 ∧ (Dm.flushD d 2).1 ≠ 8 := by
 have hb : Dm.beginD d [2] = (0, d) := by unfold Dm.beginD; rw [if_neg (by rw [hu]; decide), Ll h]; rfl
 rw [T2, hb];simp only [ne_eq, not_true_eq_false, if_false];split
 ·exact ⟨h, by simp⟩
 ·exact ⟨h, by simp⟩
end
end Ql
end
section
namespace Pe
open Tryz
open Go Go.RowKit Co Sg Ac It Sl Wl Ql
set_option maxRecDepth 100000
set_option maxHeartbeats 4000000
theorem QX (d d' : Dm.Dk) (f server : Int) (k : Key) (E : List It.Entry) (hk : k.right = true) (hr : -9223372036854775808 ≤ k.secret ∧ k.secret ≤ 9223372036854775807) (hs : 0 ≤ server ∧ server ≤ 19) (hf : 0 ≤ f ∧ f ≤ 6) (he : AU d f = (0, d')) (hp : AD (Dm.peek d f).1 = AJ E) (hb : (Dm.peek d f).1.length ≤ 16777216) (hg : Ql.Good E) (hl : E.length ≤ 1000000) :
  AC prog 9 [.ptr 0 0, .it .i64 f, .it .i64 server, Cr k] [XD d] (.tup [.ptr 3 0, .it .i64 0]) (SG d' f server k E E.length) := by
 refine As [34, 37, 38, 39] [] func9 ?_;have k1 := Io k hr;rw [hk] at k1;have k2 := Qh d f hf hb (by rw [he])
 rw [he, hp] at k2;change AC _ _ _ _ _ (LG d' f (AJ E)) at k2;have k3 := Qp d' f (AJ E) (by rw [List.length_map]; omega)
 have k4 := QR E (by omega)
 rw [hg.times] at k4;have e1 : ¬ server < 0 := by omega
 have e2 : ¬ server ≥ 20 := by omega
 refine Aa (an e1 e2) ?_;refine cp k1 ?_;refine Aa (an e1 e2) ?_;refine Ey 0 k2 ?_;refine run ?_;refine KO 0 2 3 k3 ?_ (hl := ⟨by decide, by decide, by decide, rfl, rfl, by rw [List.length_map]; rfl⟩)
 refine run ?_;have hsr : AE 1 ((AJ E).map AV.st) = true := BN 1 AV.st (fun _ => rfl) _
 refine Eg (fun m e S => e 12 = .ptr 5 0 ∧ e 48 = .sl .ro ((AJ E).map .st) ∧ e 49 = .it .i64 (E.length : Int) ∧ ∃ (j : Nat) (T : Ae), e 50 = .it .i64 (j : Int) ∧ S = (XD d' :: .cells [.it .i64 k.secret, .it .i64 k.pub] :: .cells [.ptr 0 0, .it .i64 f, .sl (.own 3) ((AJ E).map .st)] :: .buf E.length 9 1 :: B9 ((E.take j).map dg) :: .cells [.ptr 2 0, .it .i64 server, .it .i64 k.secret, .it .i64 k.pub, .sl (.own 6) ((E.take j).map Az), .mp 4, .it .i64 ((0 : Nat) : Int)] :: .buf j 82 50 :: T) ∧ j ≤ E.length ∧ m = E.length - j) E.length _ _ (Ay.reserveN 1 5 4 (es := []) (by rfl) (by rfl) 82 50) ⟨Ad, Ad, Ad, 0, [], Ad, rfl, Nat.zero_le _, rfl⟩ ?_
 rintro m e S ⟨s12, s48, s49, j, T, s50, rfl, hj, rfl⟩
 have hT1 : ∀ y : SObj, (T ++ [y])[T.length]? = some y := fun y => by simp
 have hT2 : ∀ y z : SObj, (T ++ [y]).set T.length z = T ++ [z] := fun y z => by simp
 by_cases hlt : j < E.length
 rotate_left
 ·obtain rfl : j = E.length := by omega
  rw [List.take_length];refine Aa (A4 s12 s48 s49 s50) ?_;refine cp k4 ?_;refine Aa s12 ?_;refine Aq [0, 2, 3, 5, 6, 4] (by rfl) ?_ (by rfl) (by rfl) (by rfl)
  exact QY d' f server k E E.length _ T
 have hgx : (AJ E)[j]? = some (AB E[j]) := by rw [List.getElem?_map, List.getElem?_eq_getElem hlt]; rfl
 have hx := hg.right E[j] (List.getElem_mem hlt);have hbk := RR hx.1 hx.2;have hel := G2 E[j];have kr := Za0 (AB E[j]) (by omega)
 rw [hbk] at kr;have kd := U0 E[j].item (FH hx.2);have hnd : dg E[j] ∉ (E.take j).map dg := fun hm => by
  have h1 := hg.nodup;have h2 : E.map dg = (E.take j).map dg ++ dg E[j] :: (E.drop (j + 1)).map dg := by
   rw [← List.map_cons, ← List.drop_eq_getElem_cons hlt, ← List.map_append, List.take_append_drop]
  rw [h2, List.nodup_append] at h1;exact h1.2.2 _ hm _ (by simp) rfl
 have hkf := OL _ _ 0 hnd;have f1 : B9 ((E.take (j + 1)).map dg) = .map (((E.take j).map dg).map (fun s => (AV.st s, AV.bo true)) ++ [(.st (dg E[j]), .bo true)]) := by
  rw [List.take_succ_eq_append_getElem hlt, List.map_append];simp
 have f2 : (E.take (j + 1)).map Az = (E.take j).map Az ++ [Az E[j]] := by rw [List.take_succ_eq_append_getElem hlt, List.map_append]; rfl
 have hal : (E.take j).length = j := by rw [List.length_take]; omega
 have hsz := Dl (E.take j);have hft : CX (j + 1) 800 = true := by apply FM <;> omega
 generalize E[j] = x at *;refine Aa (A8 s12 s48 s49 s50 hgx hsr hT1 hT2) ?_;refine cp kr ?_;refine Aa (an hT1 hT2) ?_;refine cp kd ?_;refine Aa (A8 s12 s50 hT1 hT2 hkf hsz hal hft) ?_;exact AG (E.length - (j + 1)) (by omega) ⟨Ad, Ad, Ad, j + 1, _, Ad, (by rw [f1, f2]), by omega, rfl⟩
end Pe
end
section
namespace Ql
open Tryz
open Go Co Sg Ac It Sl Wl
def ZfK (Fs : List (List It.Entry)) (cur : List It.Entry) : Prop := (Fs ++ [cur]).Pairwise (· <+: ·)
end Ql
end
section
namespace Ql
open Tryz
open Go Co Sg Ac It Sl Wl
structure Stp where
 Do : Int
 Item : Int
 Now : Int
 Keep : List Int
structure Scr where
 seed : By
 server : Int
 items : List It.Item
 steps : List Stp
def Ev (n m : Int) : Int := if n.tmod m < 0 then n.tmod m + m else n.tmod m
theorem Og {n m : Int} (hm : 0 < m) : 0 ≤ Ev n m ∧ Ev n m < m := by
 have h1 : -m < n.tmod m ∧ n.tmod m < m := by
  rcases Int.le_total 0 n with h | h
  ·rw [Int.tmod_eq_emod_of_nonneg h]
   have := Int.emod_nonneg n (show m ≠ 0 by omega)
   have := Int.emod_lt_of_pos n hm;omega
  ·have e : n = -(-n) := by omega
   rw [e, Int.neg_tmod, Int.tmod_eq_emod_of_nonneg (by omega)]
   have := Int.emod_nonneg (-n) (show m ≠ 0 by omega)
   have := Int.emod_lt_of_pos (-n) hm;omega
 unfold Ev;split <;> omega
def GO (l : List It.Item) (n : Int) : It.Item := l.getD (Ev n l.length).toNat AI
structure St where
 d : Dm.Dk
 E : List It.Entry
 fl : Nat
 Fs : List (List It.Entry)
structure InvS (s : St) : Prop where
 q : QS s.d s.E s.fl
 g : ZfK s.Fs (s.E.take s.fl)
section
variable {server : Int} {k : Key} {items : List It.Item} {s : St} {x : Stp}
end
end Ql
end
section
namespace Ql
open Tryz
open Go Co Sg Ac It Sl Wl
structure QF (d : Dm.Dk) (f : Int) (E : List It.Entry) : Prop where
 up : d.down = false
 ok : Dm.Ok d
 armed : d.armed = 0
 data : (d.fs f.toNat).data = Ar (AJ E)
 good : Good E
section
variable {d : Dm.Dk} {f : Int} {E : List It.Entry}
theorem OK (hf : 0 ≤ f ∧ f ≤ 6) : Dm.kn f = true ∧ Dm.kn (f + 1) = true := by
 unfold Dm.kn;simp
 omega
theorem Qx (h : d.armed = 0) (hu : d.down = false) (hk : Dm.kn f = true) : Dm.beginD d [f] = (0, d) := by
 unfold Dm.beginD;rw [if_neg (by rw [hu]; decide), Ll h]
 simp [hk]
theorem Qv (h : d.armed = 0) (hu : d.down = false) (hk : Dm.kn f = true) {n : Nat} (hn : n ≤ (d.fs f.toNat).data.length) : Dm.cutD d f n = (0, { d with fs := Dm.upd d.fs f.toNat ((d.fs f.toNat).trunc n) }) := by
 rw [Zeg, Qx h hu hk];have hs : Dm.size d f = (d.fs f.toNat).data.length := by unfold Dm.size; rw [hk]; rfl
 simp only [ne_eq, not_true_eq_false, if_false];rw [if_neg (by rw [hs]; omega), Int.toNat_natCast]
theorem Yr (h : d.armed = 0) (hu : d.down = false) (hk : Dm.kn f = true) : (Bw d f).1 = 0 ∧ (Bw d f).2.armed = 0 ∧ (Bw d f).2.down = false ∧ ((Bw d f).2.fs f.toNat).data = Ar (AD (d.fs f.toNat).data) := by
 have hp : Dm.peek d f = ((d.fs f.toNat).data, 0) := by unfold Dm.peek; rw [if_neg (by rw [hu]; decide), if_pos hk]
 obtain ⟨h1, h2, h3⟩ := NZ (d.fs f.toNat).data;have hl := congrArg List.length h1;rw [List.length_append] at hl;unfold Bw;rw [hp];simp only
 split
 ·rw [Qv h hu hk (by omega)]
  refine ⟨rfl, h, hu, ?_⟩
  show ((Dm.upd d.fs f.toNat _) f.toNat).data = _
  rw [Dm.upd_same];show (d.fs f.toNat).data.take _ = _
  generalize hb : (d.fs f.toNat).data = b at *;have := List.take_left' (l₁ := Ar (AD b)) (l₂ := Fv b) (i := (Ar (AD b)).length) rfl;rwa [← h1] at this
 ·refine ⟨rfl, h, hu, ?_⟩
  have ht : Fv (d.fs f.toNat).data = [] := List.eq_nil_of_length_eq_zero (by omega)
  rw [ht, List.append_nil] at h1;exact h1
theorem Yt (h : d.armed = 0) (hu : d.down = false) (hf : 0 ≤ f) (hk : Dm.kn (f + 1) = true) : (BG d f).1 = 0 ∧ (BG d f).2.armed = 0 ∧ (BG d f).2.down = false ∧ (BG d f).2.fs f.toNat = d.fs f.toNat := by
 unfold BG;split
 ·exact ⟨rfl, h, hu, rfl⟩
 ·rw [show (0 : Int) = ((0 : Nat) : Int) from rfl, Qv h hu hk (Nat.zero_le _)]
  exact ⟨rfl, h, hu, Dm.upd_ne _ (by omega) _⟩
theorem Qu (h : d.armed = 0) (hu : d.down = false) (hk : Dm.kn f = true) : (Dm.flushD d f).2.armed = 0 ∧ (Dm.flushD d f).2.down = false ∧ ((Dm.flushD d f).2.fs f.toNat).data = (d.fs f.toNat).data := by
 rw [T2, Qx h hu hk];simp only [ne_eq, not_true_eq_false, if_false];split
 ·exact ⟨h, hu, rfl⟩
 ·refine ⟨h, hu, ?_⟩
  show ((Dm.upd d.fs f.toNat _) f.toNat).data = _
  rw [Dm.upd_same]
theorem Qt (h : d.armed = 0) (hu : d.down = false) (hf : 0 ≤ f ∧ f ≤ 6) : (AU d f).2.armed = 0 ∧ (AU d f).2.down = false ∧ ((AU d f).2.fs f.toNat).data = Ar (AD (d.fs f.toNat).data) ∧ AD (Dm.peek d f).1 = AD (d.fs f.toNat).data ∧ (Dm.Ok d → (Dm.peek d f).1.length ≤ 16777216) := by
 obtain ⟨k1, k2⟩ := OK hf;have hp : Dm.peek d f = ((d.fs f.toNat).data, 0) := by unfold Dm.peek; rw [if_neg (by rw [hu]; decide), if_pos k1]
 obtain ⟨a1, a2, a3, a4⟩ := Yr h hu k1;obtain ⟨b1, b2, b3, b4⟩ := Yt a2 a3 hf.1 k2;obtain ⟨c1, c2, c3⟩ := Qu b2 b3 k1;rw [b4, a4] at c3;unfold AU;rw [hp];simp only [ne_eq, not_true_eq_false, if_false];rw [if_neg (by rw [a1]; simp), if_neg (by rw [b1]; simp)]
 exact ⟨c1, c2, c3, trivial, fun ho => (ho.fs _).len⟩
theorem QF.reopen (h : QF d f E) (ks : List Int) (hf : 0 ≤ f ∧ f ≤ 6) : ∃ j, j ≤ E.length ∧
  AD (Dm.peek (Dm.bring (Dm.crash d ks)) f).1 = AJ (E.take j) ∧ (Dm.peek (Dm.bring (Dm.crash d ks)) f).1.length ≤ 16777216 ∧ QF (AU (Dm.bring (Dm.crash d ks)) f).2 f (E.take j) ∧
  Dm.Ok (Dm.crash d ks) ∧ (Dm.crash d ks).armed = 0 ∧ (Dm.crash d ks).down = true := by
 have hcr : Dm.crash d ks = ⟨fun i => (d.fs i).crash (ks.getD i 0), true, d.lost, 0, []⟩ := by unfold Dm.crash; rw [h.up]; rfl
 have ho := Dm.crash_ok h.ok ks;have hda : ((Dm.crash d ks).fs f.toNat).data = (Ar (AJ E)).take ((d.fs f.toNat).stay (ks.getD f.toNat 0)) := by rw [hcr, ← h.data]; rfl
 have hst : (d.fs f.toNat).stay (ks.getD f.toNat 0) ≤ (Ar (AJ E)).length := by rw [← h.data]; exact Dm.Fl.stay_le (h.ok.fs _) _
 obtain ⟨⟨r, hr⟩, _⟩ := Yz (l := AJ E) ZV _ hst;rw [← hda] at hr;obtain ⟨a1, a2, a3, a4, a5⟩ := Qt (d := Dm.bring (Dm.crash d ks)) (f := f) (by rw [hcr]; rfl) rfl hf
 have hR : AD ((Dm.bring (Dm.crash d ks)).fs f.toNat).data = AJ (E.take (AD ((Dm.crash d ks).fs f.toNat).data).length) := by
  show AD ((Dm.crash d ks).fs f.toNat).data = _
  generalize AD ((Dm.crash d ks).fs f.toNat).data = W at *;rw [AJ, List.map_take];rw [show E.map AB = W ++ r from hr, List.take_left']
  rfl
 have hlen : (AD ((Dm.crash d ks).fs f.toNat).data).length ≤ E.length := by
  have := congrArg List.length hr;rw [List.length_append, List.length_map] at this;omega
 refine ⟨_, hlen, a4.trans hR, a5 (Dm.bring_ok ho), ⟨a2, SB (Dm.bring_ok ho), a1, by rw [a3, hR], h.good.take _⟩, ho, by rw [hcr], by rw [hcr]⟩
theorem Yu (h : d.armed = 0) (hu : d.down = false) (hk : Dm.kn f = true) (s : By) : ((Dm.appendD d f s).1 = 0 ∧ (Dm.appendD d f s).2 = { d with fs := Dm.upd d.fs f.toNat ⟨(d.fs f.toNat).data ++ s, (d.fs f.toNat).dur⟩ }) ∨ ((Dm.appendD d f s).1 ≠ 0 ∧ (Dm.appendD d f s).2 = d) := by
 unfold Dm.appendD;rw [if_neg (by rw [hu]; decide), if_neg (by rw [hk]; decide)]
 split
 ·rw [Ll h]; exact .inr ⟨by simp, rfl⟩
 ·rw [Ll (by exact h)]; exact .inl ⟨rfl, rfl⟩
theorem QF.add (h : QF d f E) (hf : 0 ≤ f ∧ f ≤ 6) (it : It.Item) (now : Int) : QF (BO d f E it now).2.1 f (BO d f E it now).2.2 ∧ (BO d f E it now).2.2.length ≤ E.length + 1 ∧ E.length ≤ (BO d f E it now).2.2.length := by
 unfold BO;split
 ·rename_i hc
  split
  ·exact ⟨h, Nat.le_succ _, Nat.le_refl _⟩
  ·rename_i hd
   have ho : Dm.Ok (Bv d f (AB ⟨AN E now, it⟩)).2 := Zfl h.ok;unfold Bv at ho ⊢;split
   ·rename_i hl
    rw [if_neg (by simp)]
    exact ⟨h, Nat.le_succ _, Nat.le_refl _⟩
   ·rename_i hl
    rw [if_neg hl] at ho;rcases Yu h.armed h.up (OK hf).1 (AK (AB ⟨AN E now, it⟩)) with ⟨h1, h2⟩ | ⟨h1, h2⟩
    ·rw [if_pos h1]
     refine ⟨⟨?_, ho, ?_, ?_, h.good.snoc hc.1 hc.2 hd⟩, by simp, by simp⟩
     ·rw [h2]; exact h.up
     ·rw [h2]; exact h.armed
     ·rw [h2]
      show ((Dm.upd d.fs f.toNat _) f.toNat).data = _
      rw [Dm.upd_same, AJ, List.map_append];show (d.fs f.toNat).data ++ _ = Ar (AJ E ++ [_])
      rw [J8, h.data]
    ·rw [if_neg h1]
     refine ⟨?_, Nat.le_succ _, Nat.le_refl _⟩
     rw [h2]; exact h
 ·exact ⟨h, Nat.le_succ _, Nat.le_refl _⟩
theorem QF.flush (h : QF d f E) (hf : 0 ≤ f ∧ f ≤ 6) : QF (Dm.flushD d f).2 f E := by
 obtain ⟨c1, c2, c3⟩ := Qu h.armed h.up (OK hf).1;exact ⟨c2, Dm.flush_ok h.ok f, c1, by rw [c3, h.data], h.good⟩
theorem QF.lose (h : QF d f E) (n : Int) (hn : n ≤ 9223372036854775807) : QF (Dm.lose d n) f E := ⟨h.up, Dm.lose_ok h.ok n hn, h.armed, h.data, h.good⟩
theorem ZdN (h : d.down = true) (it : It.Item) (now : Int) : (BO d f E it now).2.1 = d ∧ (BO d f E it now).2.2 = E := by
 unfold BO;split
 ·split
  ·exact ⟨rfl, rfl⟩
  ·have hd : (Bv d f (AB ⟨AN E now, it⟩)).1 ≠ 0 ∧ (Bv d f (AB ⟨AN E now, it⟩)).2 = d := by
    unfold Bv;split
    ·exact ⟨by simp, rfl⟩
    ·unfold Dm.appendD; rw [if_pos h]; exact ⟨by simp, rfl⟩
   rw [if_neg hd.1];exact ⟨hd.2, rfl⟩
 ·exact ⟨rfl, rfl⟩
theorem ZdO (h : d.down = true) : Dm.flushD d f = (8, d) := by
 unfold Dm.flushD Dm.beginD;rw [if_pos h];rfl
theorem Zd4 (hf : 0 ≤ f ∧ f ≤ 6) : (AU Dm.dk0 f).1 = 0 ∧ QF (AU Dm.dk0 f).2 f [] ∧ (Dm.peek Dm.dk0 f).1 = [] := by
 obtain ⟨a1, a2, a3, _, _⟩ := Qt (d := Dm.dk0) (f := f) rfl rfl hf;have hp : (Dm.peek Dm.dk0 f).1 = [] := by unfold Dm.peek; rw [if_neg (by decide)]; split <;> rfl
 obtain ⟨n, rfl⟩ := Int.eq_ofNat_of_zero_le hf.1;obtain ⟨d', e, _⟩ := VA UZ (n := n) (by omega)
 refine ⟨?_, ⟨a2, SB Dm.dk0_ok, a1, ?_, Good.nil⟩, hp⟩
 ·show (AU Dm.dk0 (n : Int)).1 = 0
  rw [e]
 ·rw [a3]; rfl
end
end Ql
end
section
namespace Pe
open Tryz
open Go Go.RowKit Co Sg Ac It Sl Dm Wl Ql
set_option maxRecDepth 100000
set_option maxHeartbeats 4000000
theorem RF (d : Dk) (f server : Int) (k : Key) (rw : List AV) (es : List AV) (fl : Nat) (T : Ae) : SubOk (List.range 4) (DC 1 d :: .cells (Aj d.fs) :: .cells [.ptr 0 0, .it .i64 f, .sl .ro rw] :: .cells [.ptr 2 0, .it .i64 server, .it .i64 k.secret, .it .i64 k.pub, .sl .ro es, .it .i64 (fl : Int)] :: T)
  [DC 1 d, .cells (Aj d.fs), .cells [.ptr 0 0, .it .i64 f, .sl .ro rw], .cells [.ptr 2 0, .it .i64 server, .it .i64 k.secret, .it .i64 k.pub, .sl .ro es, .it .i64 (fl : Int)]] := ⟨by decide, rfl, fun i o hi => by
 match i, hi with
 | 0, hi => cases hi; exact ⟨rfl, rfl⟩
 | 1, hi => cases hi; exact ⟨rfl, rfl⟩
 | 2, hi => cases hi; exact ⟨rfl, rfl⟩
 | 3, hi => cases hi; exact ⟨rfl, rfl⟩⟩
theorem Rp (d : Dk) (ho : Ok d) (h0 : d.armed = 0) (f server : Int) (k : Key) (E : List It.Entry) (fl : Nat) (it : It.Item) (now : Int) (hz : Iz it) (hzE : ∀ e ∈ E, Iz e.item) (hl : E.length ≤ 1000000) :
  AC prog 13 [.ptr 3 0, Bc it, .it .i64 now] (RL d f server k E fl) (.tup [.it .i64 (BO d f E it now).1.1, .it .i64 (BO d f E it now).1.2]) (RL (BO d f E it now).2.1 f server k (BO d f E it now).2.2 fl) := by
 refine AC.enter4 [51, 45, 53, 44] [] [(12, ([5], [72], []))] [] func13 rfl (by decide) (by decide) (Nat.le_of_ble_eq_true rfl) (by kernel_rfl) ?_; simp only [C7, B4, DB, List.map_cons, List.map_nil, List.map_toArray, List.getElem?_toArray, List.getElem?_cons_zero, List.getElem?_cons_succ, Option.bind_some, Option.bind_none, List.append_eq, List.cons_append, List.nil_append, BK, DD, BT, Ml, List.isEmpty_nil, List.isEmpty_cons, Bool.and_true, Bool.and_false, Bool.and_self, Bool.false_and, Bool.true_and, List.lookup, Nat.reduceBEq, beq_self_eq_true, Option.isSome_some, Option.isSome_none, Bool.or_true, Bool.true_or, Bool.or_false, Bool.not_true, Bool.not_false, Bool.false_eq_true, if_true, if_false, ↓reduceIte, List.size_toArray, List.length_cons, List.length_nil, List.range_succ_eq_map, List.range_zero, Nat.reduceAdd, List.filterMap_cons, List.filterMap_nil]
 have k1 := TV it hz;have hsz : AE 50 (E.map Az) = true := Dl E;have hsd : BO d f E it now = if It.right it = true ∧ 0 ≤ now ∧ now ≤ 1099511627776 then
  (if It.digest it ∈ E.map dg then ((0, 13), d, E)
  else if (Bv d f (AB ⟨AN E now, it⟩)).1 = 0 then (((E.length : Int), 0), (Bv d f (AB ⟨AN E now, it⟩)).2, E ++ [⟨AN E now, it⟩])
  else ((0, (Bv d f (AB ⟨AN E now, it⟩)).1), (Bv d f (AB ⟨AN E now, it⟩)).2, E)) else ((0, 1), d, E) := rfl
 by_cases hr : It.right it = true
 rotate_left
 ·rw [if_neg (fun h => hr h.1)] at hsd
  rw [hsd];have hr : It.right it = false := by simpa using hr
  rw [hr] at k1;refine run4 ?_
  refine cp k1 ?_;refine run4 ?_
  exact Aq (List.range 4) (by rfl) (E7 d f server k E fl _) (by rfl) (by rfl) (by rfl)
 rw [hr] at k1;by_cases h1 : now < 0
 ·rw [if_neg (fun h => by omega)] at hsd
  rw [hsd];refine run4 ?_
  refine cp k1 ?_;refine runf4 h1 ?_
  exact Aq (List.range 4) (by rfl) (E7 d f server k E fl _) (by rfl) (by rfl) (by rfl)
 by_cases h2 : now > 1099511627776
 ·rw [if_neg (fun h => by omega)] at hsd
  rw [hsd];refine run4 ?_
  refine cp k1 ?_;refine runf4 (an h1 h2) ?_
  exact Aq (List.range 4) (by rfl) (E7 d f server k E fl _) (by rfl) (by rfl) (by rfl)
 rw [if_pos ⟨hr, by omega⟩] at hsd
 have k2 := Pa it hz;have k3 := Uh E (It.digest it) hl hzE;by_cases hd : It.digest it ∈ E.map dg
 ·rw [if_pos hd] at hsd
  rw [hsd];rw [decide_eq_true hd] at k3;refine run4 ?_
  refine cp k1 ?_;refine runf4 (an h1 h2) ?_
  refine cp k2 ?_;refine runf4 (an h1 h2) ?_
  refine cp k3 ?_;refine runf4 (an h1 h2) ?_
  exact Aq (List.range 4) (by rfl) (E7 d f server k E fl _) (by rfl) (by rfl) (by rfl)
 rw [if_neg hd] at hsd;rw [decide_eq_false hd] at k3;rw [hsd];clear hsd;have ky := O9 ⟨AN E now, it⟩ hz;have hle := G2 ⟨AN E now, it⟩;have k5 := Zal d ho h0 f (AJ E) (AB ⟨AN E now, it⟩) (by rw [List.length_map]; omega) (by omega)
 have f1 : AJ (E ++ [(⟨AN E now, it⟩ : It.Entry)]) = AJ E ++ [AB ⟨AN E now, it⟩] := by rw [AJ, List.map_append]; rfl
 have f2 : (E ++ [(⟨AN E now, it⟩ : It.Entry)]).length = E.length + 1 := by simp
 have f3 : (E ++ [(⟨AN E now, it⟩ : It.Entry)]).map Az = E.map Az ++ [Az ⟨AN E now, it⟩] := by rw [List.map_append]; rfl
 have hft : CX (E.length + 1) 800 = true := by apply FM <;> omega
 have hnn : E = [] → AN E now = now := fun h => by rw [h]; rfl
 have hEl : E.length + 1 ≤ 1000001 := by omega
 have hln : ((E.length + 1 : Nat) : Int) - 1 = (E.length : Int) := by omega
 rcases List.eq_nil_or_concat E with hE | ⟨E0, x, hEx⟩
 ·have hnE := hnn hE
  rw [hnE] at ky k5 hle f1 f2 f3 ⊢;have hl0 : ¬ (E.length : Int) > 0 := by rw [hE]; decide
  refine run4 ?_
  refine cp k1 ?_;refine runf4 (an h1 h2) ?_
  refine cp k2 ?_;refine runf4 (an h1 h2) ?_
  refine cp k3 ?_;refine runf4 (A3 h1 h2 hl0) ?_
  refine cp ky ?_;refine runf4 (A3 h1 h2 hl0) ?_
  generalize Bv d f (AB ⟨now, it⟩) = q at *;obtain ⟨en, d'⟩ := q;simp only at k5 ⊢
  by_cases hen : en = 0
  ·subst hen
   rw [if_pos rfl] at k5;simp only [if_true];unfold RL;rw [f1, f3];generalize AB ⟨now, it⟩ = eb at *;refine Jy 0 1 2 k5 ?_ (hl := ⟨by decide, rfl, rfl, rfl⟩)
   refine runf4 (A3 hft hsz hEl) ?_
   refine Qj ?_; refine run4 ?_
   repeat (first | refine k4 ?_ | refine ON ?_ | (refine PM ?_; refine runf4 (A4 hft hsz hEl hln) ?_) | (refine a4 ?_; refine runf4 (A4 hft hsz hEl hln) ?_)); try refine runf4 (A4 hft hsz hEl hln) ?_
   exact KG _ (DC 1 d' :: .cells (Aj d'.fs) :: .cells [.ptr 0 0, .it .i64 f, .sl .ro ((AJ E ++ [eb]).map .st)] :: .cells [.ptr 2 0, .it .i64 server, .it .i64 k.secret, .it .i64 k.pub, .sl .ro (E.map Az ++ [Az ⟨now, it⟩]), .it .i64 (fl : Int)] :: _) (Ay.roC 4 3 4 (cells := [.ptr 2 0, .it .i64 server, .it .i64 k.secret, .it .i64 k.pub, .sl _ (E.map Az ++ [Az ⟨now, it⟩]), .it .i64 (fl : Int)]) (by rfl) (by rfl)) (List.range 4) (by rfl) (RF _ _ _ _ _ _ _ _) (by rfl) (by rfl) (by rfl)
  ·rw [if_neg hen] at k5
   simp only [if_neg hen];refine Jy 0 1 2 k5 ?_ (hl := ⟨by decide, rfl, rfl, rfl⟩)
   refine runf4 hen ?_
   exact Aq (List.range 4) (by rfl) (E7 d' f server k E fl _) (by rfl) (by rfl) (by rfl)
 ·rw [List.concat_eq_append] at hEx
  have e4 : (E.length : Int) > 0 := by rw [hEx]; simp
  have hg : E[((E.length : Int) - 1).toNat]? = some x := by
   rw [hEx, show (((E0 ++ [x]).length : Int) - 1).toNat = E0.length by simp]; simp
  have e5 : 0 ≤ (E.length : Int) - 1 := by omega
  have hnx : (if x.time > now then x.time else now) = AN E now := by
   rw [hEx];unfold AN;rw [List.getLast?_append]
   simp only [List.getLast?_singleton, Option.some_or]
   split <;> omega
  clear hEx hnn;refine run4 ?_
  refine cp k1 ?_;refine runf4 (an h1 h2) ?_
  refine cp k2 ?_;refine runf4 (an h1 h2) ?_
  refine cp k3 ?_;refine runf4 (A7 h1 h2 e4 e5 hg hsz hnx) ?_
  refine cp ky ?_;refine runf4 (an h1 h2) ?_
  generalize Bv d f (AB ⟨AN E now, it⟩) = q at *;obtain ⟨en, d'⟩ := q;simp only at k5 ⊢
  by_cases hen : en = 0
  ·subst hen
   rw [if_pos rfl] at k5;simp only [if_true];unfold RL;rw [f1, f3];generalize AB ⟨AN E now, it⟩ = eb at *;refine Jy 0 1 2 k5 ?_ (hl := ⟨by decide, rfl, rfl, rfl⟩)
   refine runf4 (A3 hft hsz hEl) ?_
   refine Qj ?_; refine run4 ?_
   repeat (first | refine k4 ?_ | refine ON ?_ | (refine PM ?_; refine runf4 (A4 hft hsz hEl hln) ?_) | (refine a4 ?_; refine runf4 (A4 hft hsz hEl hln) ?_)); try refine runf4 (A4 hft hsz hEl hln) ?_
   exact KG _ (DC 1 d' :: .cells (Aj d'.fs) :: .cells [.ptr 0 0, .it .i64 f, .sl .ro ((AJ E ++ [eb]).map .st)] :: .cells [.ptr 2 0, .it .i64 server, .it .i64 k.secret, .it .i64 k.pub, .sl .ro (E.map Az ++ [Az ⟨AN E now, it⟩]), .it .i64 (fl : Int)] :: _) (Ay.roC 4 3 4 (cells := [.ptr 2 0, .it .i64 server, .it .i64 k.secret, .it .i64 k.pub, .sl _ (E.map Az ++ [Az ⟨AN E now, it⟩]), .it .i64 (fl : Int)]) (by rfl) (by rfl)) (List.range 4) (by rfl) (RF _ _ _ _ _ _ _ _) (by rfl) (by rfl) (by rfl)
  ·rw [if_neg hen] at k5
   simp only [if_neg hen];refine Jy 0 1 2 k5 ?_ (hl := ⟨by decide, rfl, rfl, rfl⟩)
   refine runf4 hen ?_
   exact Aq (List.range 4) (by rfl) (E7 d' f server k E fl _) (by rfl) (by rfl) (by rfl)
theorem Mf (d : Dk) (T : Ae) : SubOk (List.range 2) (RD d ++ T) (RD d) := ⟨by decide, rfl, fun i o hi => by
 match i, hi with
 | 0, hi => cases hi; exact ⟨rfl, rfl⟩
 | 1, hi => cases hi; exact ⟨rfl, rfl⟩⟩
theorem Zae (d : Dk) (f server : Int) (k : Key) (E : List It.Entry) (o : SObj) (T : Ae) : SubOk [0, 1, 3, 4] (DC 1 d :: .cells (Aj d.fs) :: o :: .cells [.ptr 0 0, .it .i64 f, .sl .ro ((AJ E).map .st)] :: .cells [.ptr 3 0, .it .i64 server, .it .i64 k.secret, .it .i64 k.pub, .sl .ro (E.map Az), .it .i64 (E.length : Int)] :: T) (RL d f server k E E.length) := ⟨by decide, rfl, fun i o hi => by
 match i, hi with
 | 0, hi => cases hi; exact ⟨rfl, rfl⟩
 | 1, hi => cases hi; exact ⟨rfl, rfl⟩
 | 2, hi => cases hi; exact ⟨rfl, rfl⟩
 | 3, hi => cases hi; exact ⟨rfl, rfl⟩⟩
theorem Z3 (d : Dk) (f server : Int) (k : Key) (hk : k.right = true) (hr : -9223372036854775808 ≤ k.secret ∧ k.secret ≤ 9223372036854775807) (hs : ¬ (0 ≤ server ∧ server ≤ 19)) :
  AC prog 10 [.ptr 0 0, .it .i64 f, .it .i64 server, Cr k] (RD d) (.tup [.ot (.pointer none), .it .i64 1]) (RD d) := by
 refine As [40, 43, 45, 44, 46] [] func10 ?_;have k1 := Ja k hr;rw [hk] at k1;by_cases e1 : server < 0
 ·refine run ?_
  refine cp k1 ?_;refine Aa e1 ?_;exact Aq (List.range 2) (by rfl) (Mf d _) (by rfl) (by rfl) (by rfl)
 ·have e2 : server ≥ 20 := by omega
  refine run ?_;refine cp k1 ?_;refine Aa (an e1 e2) ?_;exact Aq (List.range 2) (by rfl) (Mf d _) (by rfl) (by rfl) (by rfl)
theorem Z2 (d : Dk) (f server : Int) (k : Key) (hk : k.right = true) (hr : -9223372036854775808 ≤ k.secret ∧ k.secret ≤ 9223372036854775807) (hs : 0 ≤ server ∧ server ≤ 19) (hf : ¬ (0 ≤ f ∧ f ≤ 6)) :
  AC prog 10 [.ptr 0 0, .it .i64 f, .it .i64 server, Cr k] (RD d) (.tup [.ot (.pointer none), .it .i64 1]) (RD d) := by
 refine As [40, 43, 45, 44, 46] [] func10 ?_;have k1 := Ja k hr;rw [hk] at k1;have k2 := Z0 d f hf;have e1 : ¬ server < 0 := by omega
 have e2 : ¬ server ≥ 20 := by omega
 refine run ?_;refine cp k1 ?_;refine Aa (an e1 e2) ?_;refine FQ 0 1 k2 ?_;refine run ?_;exact Aq (List.range 2) (by rfl) (Mf d _) (by rfl) (by rfl) (by rfl)
theorem Z1 (d : Dk) (hu : Un d) (f server : Int) (k : Key) (hk : k.right = true) (hr : -9223372036854775808 ≤ k.secret ∧ k.secret ≤ 9223372036854775807) (hs : 0 ≤ server ∧ server ≤ 19) (hf : 0 ≤ f ∧ f ≤ 6) (he : (AU d f).1 ≠ 0) :
  AC prog 10 [.ptr 0 0, .it .i64 f, .it .i64 server, Cr k] (RD d) (.tup [.ot (.pointer none), .it .i64 (AU d f).1]) (RD (AU d f).2) := by
 refine As [40, 43, 45, 44, 46] [] func10 ?_;have k1 := Ja k hr;rw [hk] at k1;have k2 := Ry d hu f hf _ _ (fun h' => absurd h' he) (fun _ => ⟨rfl, rfl⟩)
 have e1 : ¬ server < 0 := by omega
 have e2 : ¬ server ≥ 20 := by omega
 generalize AU d f = q at *;obtain ⟨en, d'⟩ := q;simp only at k2 he ⊢
 have hq : (en == 0) = false := by rw [beq_eq_false_iff_ne]; exact he
 refine run ?_;refine cp k1 ?_;refine Aa (an e1 e2) ?_;refine FQ 0 1 k2 ?_;refine Aa (an he hq) ?_;exact Aq (List.range 2) (by rfl) (Mf d' _) (by rfl) (by rfl) (by rfl)
theorem Rz (d : Dk) (hu : Un d) (f server : Int) (k : Key) (E : List It.Entry) (hk : k.right = true) (hr : -9223372036854775808 ≤ k.secret ∧ k.secret ≤ 9223372036854775807) (hs : 0 ≤ server ∧ server ≤ 19) (hf : 0 ≤ f ∧ f ≤ 6) (he : (AU d f).1 = 0) (hp : AD (peek d f).1 = AJ E) (hg : Ql.Good E) (hl : E.length ≤ 1000000) :
  AC prog 10 [.ptr 0 0, .it .i64 f, .it .i64 server, Cr k] (RD d) (.tup [.ptr 3 0, .it .i64 0]) (RL (AU d f).2 f server k E E.length) := by
 refine As [40, 43, 45, 44, 46] [] func10 ?_;have k1 := Ja k hr;rw [hk] at k1;have k2 := Ry d hu f hf _ _ (fun _ => ⟨rfl, rfl⟩) (fun h' => absurd he h')
 rw [hp] at k2;generalize AU d f = q at *;obtain ⟨en, d'⟩ := q;simp only at k2 he ⊢
 have k3 := Zak d' f (AJ E) (by rw [List.length_map]; omega)
 have k4 := ZcI E (by omega)
 rw [hg.times] at k4;have e1 : ¬ server < 0 := by omega
 have e2 : ¬ server ≥ 20 := by omega
 refine run ?_;refine cp k1 ?_;refine Aa (an e1 e2) ?_;refine Zeh 0 1 k2 ?_;refine run ?_;refine Jy 0 1 3 k3 ?_;refine run ?_;have hsr : AE 1 ((AJ E).map AV.st) = true := BN 1 AV.st (fun _ => rfl) _
 have hrl : (AJ E).length = E.length := List.length_map _;refine Eg (fun m e S => e 13 = .ptr 4 0 ∧ e 14 = .sl .ro ((AJ E).map .st) ∧ ∃ (j : Nat) (T : Ae), e 15 = .it .i64 (j : Int) ∧ S = (DC 1 d' :: .cells (Aj d'.fs) :: .cells [.it .i64 k.secret, .it .i64 k.pub] :: .cells [.ptr 0 0, .it .i64 f, .sl .ro ((AJ E).map .st)] :: .cells [.ptr 3 0, .it .i64 server, .it .i64 k.secret, .it .i64 k.pub, .sl (.own 5) ((E.take j).map Az), .it .i64 ((0 : Nat) : Int)] :: .buf j 82 50 :: T) ∧ j ≤ E.length ∧ m = E.length - j) E.length _ _ (Ay.reserveN 2 4 4 (es := []) (by rfl) (by rfl) 82 50) ⟨Ad, Ad, 0, [], Ad, rfl, Nat.zero_le _, rfl⟩ ?_
 rintro m e S ⟨s13, s14, j, T, s15, rfl, hj, rfl⟩
 have hT1 : ∀ y : SObj, (T ++ [y])[T.length]? = some y := fun y => by simp
 have hT2 : ∀ y z : SObj, (T ++ [y]).set T.length z = T ++ [z] := fun y z => by simp
 by_cases hlt : j < E.length
 rotate_left
 ·obtain rfl : j = E.length := by omega
  rw [List.take_length];refine Aa (A4 s13 s14 s15 hrl) ?_;refine cp k4 ?_;refine Aa s13 ?_;exact KG _ (DC 1 d' :: .cells (Aj d'.fs) :: .cells [.it .i64 k.secret, .it .i64 k.pub] :: .cells [.ptr 0 0, .it .i64 f, .sl .ro ((AJ E).map .st)] :: .cells [.ptr 3 0, .it .i64 server, .it .i64 k.secret, .it .i64 k.pub, .sl .ro (E.map Az), .it .i64 (E.length : Int)] :: .buf E.length 82 50 :: T) (Ay.roC 2 4 4 (cells := [.ptr 3 0, .it .i64 server, .it .i64 k.secret, .it .i64 k.pub, .sl (.own 5) (E.map Az), .it .i64 (E.length : Int)]) (by rfl) (by rfl)) [0, 1, 3, 4] (by rfl) (Zae d' f server k E _ _) (by rfl) (by rfl) (by rfl)
 have hgx : (AJ E)[j]? = some (AB E[j]) := by rw [List.getElem?_map, List.getElem?_eq_getElem hlt]; rfl
 have hx := hg.right E[j] (List.getElem_mem hlt);have hbk := RR hx.1 hx.2;have hel := G2 E[j];have kr := ZcU (AB E[j]) (by omega)
 rw [hbk] at kr;have kd := Pa E[j].item (FH hx.2);have hnd : dg E[j] ∉ (E.take j).map dg := fun hm => by
  have h1 := hg.nodup;have h2 : E.map dg = (E.take j).map dg ++ dg E[j] :: (E.drop (j + 1)).map dg := by
   rw [← List.map_cons, ← List.drop_eq_getElem_cons hlt, ← List.map_append, List.take_append_drop]
  rw [h2, List.nodup_append] at h1;exact h1.2.2 _ hm _ (by simp) rfl
 have kh := Uh (E.take j) (dg E[j]) (by rw [List.length_take]; omega) (fun e he => FH (hg.right e (List.mem_of_mem_take he)).2)
 rw [decide_eq_false hnd] at kh;have f2 : (E.take (j + 1)).map Az = (E.take j).map Az ++ [Az E[j]] := by rw [List.take_succ_eq_append_getElem hlt, List.map_append]; rfl
 have hal : (E.take j).length = j := by rw [List.length_take]; omega
 have hsz := Dl (E.take j);have hft : CX (j + 1) 800 = true := by apply FM <;> omega
 clear hnd hbk;generalize E[j] = x at *;refine Aa (A8 s13 s14 s15 hrl hgx hsr hT1 hT2) ?_;refine cp kr ?_;refine Aa (A3 s13 hT1 hT2) ?_;refine cp kd ?_;refine Aa (A3 s13 hT1 hT2) ?_;refine cp kh ?_;refine Aa (A7 s13 s15 hT1 hT2 hsz hal hft) ?_;exact AG (E.length - (j + 1)) (by omega) ⟨Ad, Ad, j + 1, _, Ad, (by rw [f2]), by omega, rfl⟩
end Pe
end
section
namespace Pe
open Tryz
open Go Go.RowKit Co Sg Ac It
set_option maxRecDepth 100000
set_option maxHeartbeats 4000000
abbrev Zcv (l : List Int) : AV := .sl .ro (l.map (AV.it .i64))
structure InL (l : List Int) : Prop where
 len : l.length ≤ 140737488351232
 rng : ∀ i ∈ l, -9223372036854775808 ≤ i ∧ i ≤ 9223372036854775807
theorem Zf {n us} (h : Bm prog 140737488351232 (n + 2) 42 us) : ∃ l : List Int, us = [Zcv l] ∧ InL l := by
 obtain ⟨l, h1, h2, h3⟩ := JW (AV.it .i64) (fun i : Int => -9223372036854775808 ≤ i ∧ i ≤ 9223372036854775807) underlying42 h (fun x hx => by
  obtain ⟨i, rfl, hi⟩ := Bt underlying3 hx;exact ⟨i, by rw [show EC prog 3 = false from by kernel_rfl]; rfl, hi⟩)
 exact ⟨l, h1, h2, h3⟩
structure InE (e : It.Entry) : Prop where
 time : -9223372036854775808 ≤ e.time ∧ e.time ≤ 9223372036854775807
 item : InI e.item
end Pe
end
section
namespace Pe
open Tryz
open Go Go.RowKit Co Sg Ac It Sl
set_option maxRecDepth 100000
structure Cs where
 g : Head
 h : Head
 key : Key
 list : List It.Entry
 text : By
 server : Int
 time : Int
end Pe
end
section
namespace Pe
open Tryz
open Go Go.RowKit Co Sg Ac It Sl Wl Ql
set_option maxRecDepth 100000
set_option maxHeartbeats 4000000
def PB : Nat → By
 | 0 => [48, 48, 48, 48, 48, 48, 48, 48, 48, 48, 48, 48, 48, 48, 97, 49]
 | 1 => [48, 48, 48, 48, 48, 48, 48, 48, 48, 48, 48, 48, 48, 48, 98, 50]
 | _ => [48, 48, 48, 48, 48, 48, 48, 48, 48, 48, 48, 48, 48, 48, 99, 51]
def BM (n : Nat) : It.Item := SH { BU with author := PB n, text := [110, 97, 109, 101], n := 37 }
theorem KU : It.right (BM 0) = true := by decide +kernel
theorem PC : It.right (BM 1) = true := by decide +kernel
theorem ZeZ : It.digest (BM 1) ≠ It.digest (BM 0) := by decide +kernel
theorem V9 : AC prog 29 [.it .i64 0] [] (Bc (BM 0)) [] := by
 refine As [61] [] func29 ?_;have k := SF { BU with author := PB 0, text := [110, 97, 109, 101], n := 37 } (by decide) (by decide)
 refine run ?_;refine cp k ?_;refine run ?_;exact Ab
theorem Ze0 : AC prog 29 [.it .i64 1] [] (Bc (BM 1)) [] := by
 refine As [61] [] func29 ?_;have k := SF { BU with author := PB 1, text := [110, 97, 109, 101], n := 37 } (by decide) (by decide)
 refine run ?_;refine cp k ?_;refine run ?_;exact Ab
def k5 : Key := Sg.keyOf 5
theorem OM : k5.right = true := To (by decide) (by decide)
def M8 : List It.Entry := [⟨5, BM 0⟩]
def B1 : List It.Entry := [⟨5, BM 0⟩, ⟨5, BM 1⟩]
theorem RQ (s : By) (h : s.length ≤ 300000) : (AK s).length ≤ 300030 := by
 have h1 := Jf 8 s.length (by omega)
 have h2 := G4 s;simp only [AK, List.length_append];omega
theorem We : ∀ e ∈ B1, It.right e.item = true := fun e he => by
 unfold B1 at he;simp only [List.mem_cons, List.not_mem_nil, or_false] at he;rcases he with rfl | rfl
 ·exact KU
 ·exact PC
theorem Ze7 : ∀ e ∈ B1, Iz e.item := fun e he => FH (We e he)
theorem Q0 : AC prog 5 [] [] (.bo true) [] := by
 obtain ⟨d1, e1, c1', f1, _, _⟩ := VA UZ (n := 0) (by omega)
 have f1 : d1.fs 0 = ⟨[], 0⟩ := f1;have hkr : -9223372036854775808 ≤ k5.secret ∧ k5.secret ≤ 9223372036854775807 := by decide +kernel
 have o1 := YW Dm.dk0 d1 0 3 k5 OM hkr (by decide) (by decide) e1 rfl
 have kh1 := NN d1 0 3 k5 [] 0 hkr (by decide) (fun e he => absurd he (by simp)) (Nat.le_refl _)
 obtain ⟨m1, m2, m3⟩ := SZ (k := k5) (server := 3) (l := []) (time := 0) OM (by decide) (by decide) (by decide)
 have hh1 : FL k5 3 [] 0 = Di k5 3 [] 0 := rfl;have kv := YI k5.pub (FL k5 3 [] 0) (by decide +kernel)
 rw [hh1] at kh1 kv;rw [m3] at kv;have hb0 := G2 ⟨5, BM 0⟩;have hb1 := G2 ⟨5, BM 1⟩;have r0 := RQ (AB ⟨5, BM 0⟩) (by omega)
 have r1 := RQ (AB ⟨5, BM 1⟩) (by omega)
 obtain ⟨d2, a1, a2, a3, a4⟩ := VE c1' (n := 0) (by omega) (s := AB ⟨5, BM 0⟩) (by omega) (by rw [f1]; show 0 + _ ≤ _; omega)
 have s1 : BO d1 0 [] (BM 0) 5 = ((0, 0), d2, M8) := by
  unfold BO;rw [if_pos ⟨KU, by decide⟩, if_neg (by simp)]
  have a1 : Bv d1 0 (AB ⟨AN [] 5, BM 0⟩) = (0, d2) := a1;rw [a1];rfl
 have ka1 := I4 d1 0 3 k5 [] 0 (BM 0) 5 (FH KU) (by decide) (fun h => Jb h)
 rw [s1] at ka1;rw [f1] at a3;obtain ⟨d3, b1, b2, b3, b4⟩ := VE a2 (n := 0) (by omega) (s := AB ⟨5, BM 1⟩) (by omega) (by rw [a3]; simp only [List.length_append, List.length_nil]; omega)
 have s2 : BO d2 0 M8 (BM 1) 3 = ((1, 0), d3, B1) := by
  unfold BO;rw [if_pos ⟨PC, by decide⟩, if_neg (by
   show It.digest (BM 1) ∉ [It.digest (BM 0)]
   rw [List.mem_singleton];exact ZeZ)]
  have b1 : Bv d2 0 (AB ⟨AN M8 3, BM 1⟩) = (0, d3) := b1;rw [b1];rfl
 have ka2 := I4 d2 0 3 k5 M8 0 (BM 1) 3 (FH PC) (by decide) (fun h => Jb h)
 rw [s2] at ka2;obtain ⟨d4, g1, g2, g3, g4⟩ := ZeI b2 (n := 0) (by omega)
 have kl1 := NO d3 0 3 k5 B1 0;have kf := NR d3 0 3 k5 B1 0;rw [show (0 : Int) = ((0 : Nat) : Int) from rfl, g1] at kf
 have ke := NT d4 0 3 k5 B1 2 0 9 (by decide) (by decide) We
 have hwin : DI B1 2 0 9 = B1 := rfl;rw [hwin] at ke;have s3 : BO d4 0 B1 (BM 0) 7 = ((0, 13), d4, B1) := by
  unfold BO;rw [if_pos ⟨KU, by decide⟩, if_pos (by
   show It.digest (BM 0) ∈ [It.digest (BM 0), _]
   simp)]
 have ka3 := I4 d4 0 3 k5 B1 2 (BM 0) 7 (FH KU) (by decide) (fun h => Jb h)
 rw [s3] at ka3;have s4 : BO d4 0 B1 AI 7 = ((0, 1), d4, B1) := by
  unfold BO;rw [if_neg (fun h => by rw [Tv] at h; exact absurd h.1 (by decide))]
 have ka4 := I4 d4 0 3 k5 B1 2 AI 7 ⟨Ee, by decide, by decide, Fh⟩ (by decide) (fun h => by rw [Tv] at h; cases h)
 rw [s4] at ka4;have kl2 := NO d4 0 3 k5 B1 2;have kh2 := NN d4 0 3 k5 B1 2 hkr (by decide) Ze7 (by decide)
 have hh2 : FL k5 3 B1 2 = Di k5 3 B1 5 := rfl;obtain ⟨n1, n2, n3⟩ := SZ (k := k5) (server := 3) (l := B1) (time := 5) OM (by decide) (by decide) (by decide)
 rw [hh2] at kh2;have kk := Ol 5 (by decide)
 change AC _ _ _ _ (Cr k5) _ at kk;clear a1 a3 a4 b1 b2 b3 b4 g1 g2 g3 g4 e1 f1 c1' r0 r1 hb0 hb1 s1 s2 s3 s4 a2 hh1 hh2 hwin m3 n3 m2 n2;have z1 : (Di k5 3 [] 0).size = 0 ∧ (Di k5 3 [] 0).time = 0 ∧ (Di k5 3 [] 0).server = 3 := by rw [m1]; exact ⟨rfl, rfl, rfl⟩
 have z2 : (Di k5 3 B1 5).size = 2 := by rw [n1]; rfl
 clear m1 n1;generalize Di k5 3 [] 0 = hd1 at *;generalize Di k5 3 B1 5 = hd2 at *;obtain ⟨hv, hs, hr, ht, hg⟩ := hd1;obtain ⟨rfl, rfl, rfl⟩ := z1;obtain ⟨hv2, hs2, hr2, ht2, hg2⟩ := hd2;obtain rfl := z2;generalize k5 = kk5 at *;refine As [28, 29, 30] [] func5 ?_;refine run ?_;refine Au (AC.newAt U4 _) ?_;refine run ?_;refine cp kk ?_;refine run ?_;refine Pr 0 o1 ?_;refine run ?_;refine Ej 0 2 3 4 5 6 kh1 ?_;refine run ?_;refine cp V9 ?_;refine run ?_;refine Ej 0 2 3 4 5 6 ka1 ?_;refine run ?_;refine cp Ze0 ?_;refine run ?_;refine Ej 0 2 3 4 5 6 ka2 ?_;refine run ?_;refine Ej 0 2 3 4 5 6 kl1 ?_;refine run ?_;refine Ej 0 2 3 4 5 6 kf ?_;refine run ?_;refine Ej 0 2 3 4 5 6 ke ?_;refine run ?_;refine cp V9 ?_;refine run ?_;refine Ej 0 2 3 4 5 6 ka3 ?_;refine run ?_;refine Ej 0 2 3 4 5 6 ka4 ?_;have hb2 : B1.length = 2 := rfl;have hsz : AE 50 (B1.map Az) = true := Dl B1;have hx0 : B1[0]? = some ⟨5, BM 0⟩ := rfl;have hx1 : B1[1]? = some ⟨5, BM 1⟩ := rfl;refine Aa (A4 hb2 hx0 hx1 hsz) ?_;refine cp kv ?_;refine Aa (A4 hb2 hx0 hx1 hsz) ?_;refine Ej 0 2 3 4 5 6 kl2 ?_;refine Aa (A4 hb2 hx0 hx1 hsz) ?_;refine Ej 0 2 3 4 5 6 kh2 ?_;refine Aa (A4 hb2 hx0 hx1 hsz) ?_;exact Ab
end Pe
end
section
namespace Pe
open Tryz
open Go Go.RowKit Co Sg Ac It Sl Wl Ql
set_option maxRecDepth 100000
set_option maxHeartbeats 4000000
abbrev Fw (x : Stp) : AV := .agg [.it .i64 x.Do, .it .i64 x.Item, .it .i64 x.Now, ints .ro x.Keep]
abbrev NU (s : Scr) : AV := .agg [.st s.seed, .it .i64 s.server, .sl .ro (s.items.map Bc), .sl .ro (s.steps.map Fw)]
structure Win15 (x : Stp) : Prop where
 D : -9223372036854775808 ≤ x.Do ∧ x.Do ≤ 9223372036854775807
 I : -9223372036854775808 ≤ x.Item ∧ x.Item ≤ 9223372036854775807
 N : -9223372036854775808 ≤ x.Now ∧ x.Now ≤ 9223372036854775807
 K : x.Keep.length ≤ 140737488351232
theorem Sq (n m : Int) (h : -9223372036854775808 ≤ n ∧ n ≤ 9223372036854775807) (hm : 0 < m ∧ m ≤ 100) : AC prog 11 [.it .i64 n, .it .i64 m] [] (.it .i64 (Ev n m)) [] := by
 refine Ai [] [] func11 ?_;have h0 := Og (n := n) hm.1;have h1 : -m < n.tmod m ∧ n.tmod m < m := by
  unfold Ev at h0;have h2 := Int.lt_tmod_of_pos n hm.1;split at h0 <;> omega
 have hw : IntKind.i64.wrap (n.tmod m) = n.tmod m := wrap64 (by omega) (by omega)
 have hw1 : n.tmod m < 0 → IntKind.i64.wrap (n.tmod m + m) = n.tmod m + m := fun _ => wrap64 (by omega) (by omega)
 have hmz : ¬ m = 0 := by omega
 refine Aa (an hw hmz) ?_;by_cases h0 : n.tmod m < 0
 ·have hw1 := hw1 h0
  rw [show Ev n m = n.tmod m + m from if_pos h0]
  refine Aa (A3 hw hw1 hmz) ?_;exact Ab
 ·rw [show Ev n m = n.tmod m from if_neg h0]
  refine Aa (an hw hmz) ?_;exact Ab
def EH : List Stp → Nat
 | [] => 0
 | x :: l => x.Keep.length + EH l
theorem Yx (l : List Stp) (x : Stp) : EH (l ++ [x]) = EH l + x.Keep.length := by
 induction l with
 | nil => simp [EH]
 | cons y l ih => simp only [List.cons_append, EH, ih]; omega
theorem Yy {l : List Stp} (h : ∀ x ∈ l, x.Keep.length ≤ 140737488351232) : EH l ≤ l.length * 140737488351232 := by
 induction l with
 | nil => simp [EH]
 | cons x l ih =>
  have := ih fun y hy => h y (by simp [hy])
  have := h x (by simp)
  simp only [EH, List.length_cons, Nat.succ_mul]; omega
def Jq (s : Scr) : Bool := decide (s.items.length ≤ 12) && (decide (s.steps.length ≤ 40) && decide (s.seed.length + EH s.steps ≤ 500))
theorem Zdc (s : Scr) (hl : s.steps.length ≤ 140737488351232) (hi : s.items.length ≤ 140737488351232) (hsd : s.seed.length ≤ 140737488351232) (h : ∀ x ∈ s.steps, Win15 x) : AC prog 4 [NU s] [] (.bo (Jq s)) [] := by
 refine As [5] [] func4 ?_;have hsz : AE 4 (s.steps.map Fw) = true := BN 4 Fw (fun _ => rfl) _
 refine run ?_;refine Bp (fun m e S => e 1 = .ptr 0 0 ∧ S = [.cells [.st s.seed, .it .i64 s.server, .sl .ro (s.items.map Bc), .sl .ro (s.steps.map Fw)]] ∧ ∃ (k : Nat) (v : Int), e 4 = .it .i64 (k : Int) ∧ e 3 = .it .i64 v ∧ (s.steps.length ≤ 40 → v = (s.seed.length + EH (s.steps.take k) : Nat)) ∧ k ≤ s.steps.length ∧ m = s.steps.length - k) s.steps.length ⟨Ad, rfl, 0, s.seed.length, Ad, Ad, fun _ => rfl, by omega, rfl⟩ ?_
 rintro m e S ⟨s1, rfl, k, v, s4, s3, hv, hk, rfl⟩
 by_cases hlt : k < s.steps.length
 ·have ga : s.steps[k]? = some s.steps[k] := List.getElem?_eq_getElem hlt
  have hb := h s.steps[k] (List.getElem_mem hlt);have hsn := Yx (s.steps.take k) s.steps[k];rw [← List.take_succ_eq_append_getElem hlt] at hsn;generalize s.steps[k] = x at *;refine Aa (A5 s1 s3 s4 ga hsz) ?_;refine AG (s.steps.length - (k + 1)) (by omega) ⟨Ad, rfl, k + 1, _, Ad, Ad, fun hl2 => ?_, by omega, rfl⟩
  have h1 := Yy (l := s.steps.take k) (fun a ha => (h a (List.mem_of_mem_take ha)).K)
  have h2 : (s.steps.take k).length ≤ 40 := by rw [List.length_take]; omega
  have h3 : EH (s.steps.take k) ≤ 40 * 140737488351232 := Nat.le_trans h1 (Nat.mul_le_mul_right _ h2);have hK := hb.K;have hv2 := hv hl2;rw [hv2, hsn, wrap64 (by omega) (by omega)]
  omega
 obtain rfl : k = s.steps.length := by omega
 rw [List.take_length] at hv;unfold Jq;by_cases h12 : s.items.length ≤ 12
 rotate_left
 ·have e1 : ¬ (s.items.length : Int) ≤ 12 := by omega
  rw [decide_eq_false h12, Bool.false_and];refine Aa (A4 s1 s3 s4 e1) ?_;exact Ab
 have e1 : (s.items.length : Int) ≤ 12 := by omega
 rw [decide_eq_true h12, Bool.true_and];by_cases h40 : s.steps.length ≤ 40
 rotate_left
 ·have e2 : ¬ (s.steps.length : Int) ≤ 40 := by omega
  rw [decide_eq_false h40, Bool.false_and];refine Aa (A5 s1 s3 s4 e1 e2) ?_;exact Ab
 have e2 : (s.steps.length : Int) ≤ 40 := by omega
 rw [decide_eq_true h40, Bool.true_and];have hv := hv h40;by_cases h500 : s.seed.length + EH s.steps ≤ 500
 rotate_left
 ·have e3 : ¬ v ≤ 500 := by omega
  rw [decide_eq_false h500];refine Aa (A6 s1 s3 s4 e1 e2 e3) ?_;exact Ab
 have e3 : v ≤ 500 := by omega
 rw [decide_eq_true h500];refine Aa (A6 s1 s3 s4 e1 e2 e3) ?_;refine cp Q0 ?_;refine run ?_;exact Ab
theorem Zcp (s : By) : -9223372036854775808 ≤ (Jj s).secret ∧ (Jj s).secret ≤ 9223372036854775807 := by
 have := Key.right_iff.1 (Tn s);omega
abbrev NK (x : Stp) : List AV := [.it .i64 x.Do, .it .i64 x.Item, .it .i64 x.Now, ints .ro x.Keep]
abbrev NV (s : Scr) : List AV := [.st s.seed, .it .i64 s.server, .sl .ro (s.items.map Bc), .sl .ro (s.steps.map Fw)]
end Pe
end
section
namespace Pe
open Tryz
open Go Go.RowKit Co Sg Ac It Sl Wl Ql
set_option maxRecDepth 100000
set_option maxHeartbeats 4000000
theorem Ri (a : List It.Entry) (hl : a.length ≤ 1000000) (hz : ∀ e ∈ a, Iz e.item) : AC prog 22 [CY a, CY a] [] (.bo true) [] := by
 refine As [57] [] func22 ?_;have hsa := Dl a;have e6 : ∀ l : Int, (l != l) = false := fun l => by simp
 refine run ?_;refine Bp (fun m e S => S = [] ∧ e 0 = CY a ∧ e 1 = CY a ∧ ∃ k : Nat, e 5 = .it .i64 (k : Int) ∧ k ≤ a.length ∧ m = a.length - k) a.length ⟨rfl, Ad, Ad, 0, Ad, by omega, rfl⟩ ?_
 rintro m e S ⟨rfl, s0, s1, k, s5, hk, rfl⟩
 by_cases hlt : k < a.length
 ·have hga : a[k]? = some a[k] := List.getElem?_eq_getElem hlt
  have za := hz a[k] (List.getElem_mem hlt);generalize a[k] = x at *;have ks := J0 x.item x.item za.lz za.lz;rw [decide_eq_true rfl] at ks;refine Aa (A6 s0 s1 s5 hga hsa e6) ?_;refine cp ks ?_;refine Aa (A6 s0 s1 s5 hga hsa e6) ?_;exact AG (a.length - (k + 1)) (by omega) ⟨rfl, Ad, Ad, k + 1, Ad, by omega, rfl⟩
 ·refine Aa (A3 s0 s1 s5) ?_
  exact Ab
structure WinS (s : Scr) : Prop where
 seed : s.seed.length ≤ 140737488351232
 server : -9223372036854775808 ≤ s.server ∧ s.server ≤ 9223372036854775807
 items : s.items.length ≤ 140737488351232
 steps : s.steps.length ≤ 140737488351232
 x : ∀ x ∈ s.steps, Win15 x
 z : ∀ i ∈ s.items, Iz i
theorem Zdb {s : Scr} (h : Jq s = true) : s.items.length ≤ 12 ∧ s.steps.length ≤ 40 ∧ s.seed.length ≤ 500 := by
 unfold Jq at h;simp only [Bool.and_eq_true, decide_eq_true_eq] at h;omega
theorem Fx {α : Type} {l : List α} {i : Nat} {x : α} (h : l[i]? = some x) : l.set i x = l := by
 refine List.ext_getElem? fun j => ?_
 by_cases e : i = j
 ·subst e
  rw [List.getElem?_set_self (List.getElem?_eq_some_iff.1 h).1, h]
 ·rw [List.getElem?_set_ne e]
theorem SgAt.app {T : Ae} {a b c s u m : Nat} {d : Dm.Dk} {f server : Int} {k : Key} {E : List It.Entry} {fl : Nat} (h : SgAt T a b c s u m d f server k E fl) (R : Ae) : SgAt (T ++ R) a b c s u m d f server k E fl :=
 ⟨h.nd, Dy h.p0 R, Dy h.p1 R, Dy h.p2 R, Dy h.p3 R, Dy h.p4 R, Dy h.p5 R⟩
theorem Jx {P : Program} {pf rf : List FuncId} {e : Af} {F : FuncId} {dst : Option Nat} {rest : List AO} {K : Af → Ae → Prop} {args gargs : List AV} {T : Ae} {d : Dm.Dk} {f server : Int} {k : Key} {E : List It.Entry} {fl : Nat} {v : AV} (a b c s u m : Nat) (h : AC P F (.ptr 3 0 :: args) (SG d f server k E fl) v (SG d f server k E fl))
  (h' : Bh P pf rf rest (put e dst v) T K)
  (hl : SgAt T a b c s u m d f server k E fl := by exact ⟨by decide, rfl, rfl, rfl, rfl, rfl, rfl⟩) (ha : args.all (AV.ok 0) = true := by rfl) (hv : v.ok 0 = true := by rfl) (hg : gargs.map AV.wk = .ptr s 0 :: args := by rfl) :
  BL (IM P F gargs T) (CN P pf rf dst rest e K) :=
 Au (show (∀ R, AC P F (gargs.map AV.wk) (T ++ R) v (T ++ R)) ∧ T = T from ⟨fun R => by
  rw [hg];have hq := hl.app R;have := AC.sgs hq h ha hv;rw [Fx hq.p0, Fx hq.p1, Fx hq.p2, Fx hq.p3, Fx hq.p4, Fx hq.p5] at this;exact this, rfl⟩) h'
end Pe
end
section
namespace Pe
open Tryz
open Go Go.RowKit Co Sg Ac It Sl Dm Wl Ql
set_option maxRecDepth 100000
set_option maxHeartbeats 4000000
section
variable {P : Program} {pf rf : List FuncId} {e : Af} {F : FuncId} {dst : Option Nat} {rest : List AO} {K : Af → Ae → Prop}
abbrev Fq (c : Nat) (server : Int) (k : Key) (E : List It.Entry) (fl : Nat) : SObj := .cells [.ptr c 0, .it .i64 server, .it .i64 k.secret, .it .i64 k.pub, .sl .ro (E.map Az), .it .i64 (fl : Int)]
abbrev Fp (a : Nat) (f : Int) (E : List It.Entry) : SObj := .cells [.ptr a 0, .it .i64 f, .sl .ro ((AJ E).map .st)]
structure RgAt (T : Ae) (a b c s : Nat) (d : Dk) (f server : Int) (k : Key) (E : List It.Entry) (fl : Nat) : Prop where
 nd : [a, b, c, s].Nodup
 p0 : T[a]? = some (DC b d)
 p1 : T[b]? = some (.cells (Aj d.fs))
 p2 : T[c]? = some (Fp a f E)
 p3 : T[s]? = some (Fq c server k E fl)
theorem RgAt.sub {T : Ae} {a b c s : Nat} {d : Dk} {f server : Int} {k : Key} {E : List It.Entry} {fl : Nat} (h : RgAt T a b c s d f server k E fl) : SubOk [a, b, c, s] T (RL d f server k E fl) := ⟨h.nd, rfl, fun i o hi => by
 match i, hi with
 | 0, hi => cases hi; exact ⟨rfl, h.p0⟩
 | 1, hi => cases hi; exact ⟨rfl, h.p1⟩
 | 2, hi => cases hi; exact ⟨rfl, h.p2⟩
 | 3, hi => cases hi; exact ⟨rfl, h.p3⟩⟩
theorem AC.rg {args : List AV} {T : Ae} {d d' : Dk} {f server : Int} {k : Key} {E E' : List It.Entry} {fl fl' : Nat} {v : AV} {a b c s : Nat} (hl : RgAt T a b c s d f server k E fl) (h : AC P F (.ptr 3 0 :: args) (RL d f server k E fl) v (RL d' f server k E' fl')) (ha : args.all (AV.ok 0) = true) (hv : v.ok 0 = true) :
  AC P F (.ptr s 0 :: args) T v ((((T.set a (DC b d')).set b (.cells (Aj d'.fs))).set c (Fp a f E')).set s (Fq c server k E' fl')) := by
 have ha1 : ∀ u ∈ args, u.ok 4 = true := fun u hu => CT (List.all_eq_true.1 ha u hu) (Nat.zero_le 4)
 have := h.frame (T := T) [a, b, c, s] hl.sub (by simp only [List.all_cons, Bool.and_eq_true]; exact ⟨rfl, List.all_eq_true.2 ha1⟩) (CT hv (Nat.zero_le 4)) (RH _ _ _ _ _ _)
 rw [List.map_cons, F5 ha, Cn hv (fun i hi => absurd hi (Nat.not_lt_zero _))] at this
 have hM : ∀ ρ, (SObj.cells (Aj d'.fs)).ren ρ = .cells (Aj d'.fs) := fun ρ => rfl
 unfold RL at this;generalize SObj.cells (Aj d'.fs) = M at *;simp only [after, List.map_cons, List.drop_succ_cons, List.drop_zero, List.length_cons, List.length_nil, hM] at this;simpa [after, B6, ext, At, SObj.ren, AV.r1, AV.r0, Mode.ren, AV.ren, AV.r2, DC, Fp, Fq, AJ, List.map_map] using this
theorem MV {args gargs : List AV} {T : Ae} {d d' : Dk} {f server : Int} {k : Key} {E E' : List It.Entry} {fl fl' : Nat} {v : AV} (a b c s : Nat) (h : AC P F (.ptr 3 0 :: args) (RL d f server k E fl) v (RL d' f server k E' fl'))
  (h' : Bh P pf rf rest (put e dst v) ((((T.set a (DC b d')).set b (.cells (Aj d'.fs))).set c (Fp a f E')).set s (Fq c server k E' fl')) K)
  (hl : RgAt T a b c s d f server k E fl := by exact ⟨by decide, rfl, rfl, rfl, rfl⟩) (ha : args.all (AV.ok 0) = true := by rfl) (hv : v.ok 0 = true := by rfl) (hg : gargs.map AV.wk = .ptr s 0 :: args := by rfl) :
  BL (EE P F gargs T) (CN P pf rf dst rest e K) := Au (show AC P F (gargs.map AV.wk) T v _ by rw [hg]; exact AC.rg hl h ha hv) h'
theorem RgAt.app {T : Ae} {a b c s : Nat} {d : Dk} {f server : Int} {k : Key} {E : List It.Entry} {fl : Nat} (h : RgAt T a b c s d f server k E fl) (R : Ae) : RgAt (T ++ R) a b c s d f server k E fl :=
 ⟨h.nd, Dy h.p0 R, Dy h.p1 R, Dy h.p2 R, Dy h.p3 R⟩
theorem MU {args gargs : List AV} {T : Ae} {d : Dk} {f server : Int} {k : Key} {E : List It.Entry} {fl : Nat} {v : AV} (a b c s : Nat) (h : AC P F (.ptr 3 0 :: args) (RL d f server k E fl) v (RL d f server k E fl))
  (h' : Bh P pf rf rest (put e dst v) T K)
  (hl : RgAt T a b c s d f server k E fl := by exact ⟨by decide, rfl, rfl, rfl, rfl⟩) (ha : args.all (AV.ok 0) = true := by rfl) (hv : v.ok 0 = true := by rfl) (hg : gargs.map AV.wk = .ptr s 0 :: args := by rfl) :
  BL (IM P F gargs T) (CN P pf rf dst rest e K) :=
 Au (show (∀ R, AC P F (gargs.map AV.wk) (T ++ R) v (T ++ R)) ∧ T = T from ⟨fun R => by
  rw [hg];have hq := hl.app R;have := AC.rg hq h ha hv;rw [Fx hq.p0, Fx hq.p1, Fx hq.p2, Fx hq.p3] at this;exact this, rfl⟩) h'
theorem AC.rgo {args : List AV} {T : Ae} {d d' : Dk} {f server : Int} {k : Key} {E : List It.Entry} {fl : Nat} {a b : Nat} (hl : RdAt T a b d) (ha : args.all (AV.ok 0) = true) (h : AC P F (.ptr 0 0 :: args) (RD d) (.tup [.ptr 3 0, .it .i64 0]) (RL d' f server k E fl)) :
  AC P F (.ptr a 0 :: args) T (.tup [.ptr (T.length + 1) 0, .it .i64 0]) (((T.set a (DC b d')).set b (.cells (Aj d'.fs))) ++ [Fp a f E, Fq T.length server k E fl]) := by
 have ha1 : ∀ u ∈ args, u.ok 2 = true := fun u hu => CT (List.all_eq_true.1 ha u hu) (Nat.zero_le 2)
 have := h.frame (T := T) [a, b] hl.sub (by simp only [List.all_cons, Bool.and_eq_true]; exact ⟨rfl, List.all_eq_true.2 ha1⟩) rfl (RH _ _ _ _ _ _)
 rw [List.map_cons, F5 ha] at this;have hM : ∀ ρ, (SObj.cells (Aj d'.fs)).ren ρ = .cells (Aj d'.fs) := fun ρ => rfl
 unfold RL at this;generalize SObj.cells (Aj d'.fs) = M at *;simp only [after, List.map_cons, List.drop_succ_cons, List.drop_zero, List.length_cons, List.length_nil, hM] at this;simpa [after, B6, ext, At, SObj.ren, AV.r1, AV.r0, Mode.ren, AV.ren, AV.r2, DC, Fp, Fq, AJ, List.map_map] using this
theorem Vi {args gargs : List AV} {T : Ae} {d d' : Dk} {f server : Int} {k : Key} {E : List It.Entry} {fl : Nat} (a b : Nat) (h : AC P F (.ptr 0 0 :: args) (RD d) (.tup [.ptr 3 0, .it .i64 0]) (RL d' f server k E fl))
  (h' : Bh P pf rf rest (put e dst (.tup [.ptr (T.length + 1) 0, .it .i64 0])) (((T.set a (DC b d')).set b (.cells (Aj d'.fs))) ++ [Fp a f E, Fq T.length server k E fl]) K)
  (hl : RdAt T a b d := by exact ⟨by decide, rfl, rfl⟩) (ha : args.all (AV.ok 0) = true := by rfl) (hg : gargs.map AV.wk = .ptr a 0 :: args := by rfl) :
  BL (EE P F gargs T) (CN P pf rf dst rest e K) := Au (show AC P F (gargs.map AV.wk) T _ _ by rw [hg]; exact AC.rgo hl ha h) h'
theorem AC.rdn {d : Dk} (h : AC P F [] [] (.ptr 0 0) (RD d)) (T : Ae) : AC P F [] T (.ptr T.length 0) (T ++ [DC (T.length + 1) d, .cells (Aj d.fs)]) := by
 have := h.frame (T := T) [] ⟨List.nodup_nil, rfl, fun i o hi => by cases hi⟩ rfl rfl (RT d)
 have hM : ∀ ρ, (SObj.cells (Aj d.fs)).ren ρ = .cells (Aj d.fs) := fun ρ => rfl
 unfold RD at this;generalize SObj.cells (Aj d.fs) = M at *;simp only [after, List.map_cons, List.map_nil, List.drop_succ_cons, List.drop_zero, List.length_cons, List.length_nil, hM] at this;simpa [after, B6, ext, At, SObj.ren, AV.r1, AV.r0, Mode.ren, AV.ren, AV.r2, DC, Fp, Fq, AJ, List.map_map] using this
end
theorem YZ (d : Dk) (f server : Int) (k : Key) (hk : k.right = true) (hr : -9223372036854775808 ≤ k.secret ∧ k.secret ≤ 9223372036854775807) (hs : ¬ (0 ≤ server ∧ server ≤ 19)) :
  AC prog 9 [.ptr 0 0, .it .i64 f, .it .i64 server, Cr k] [XD d] (.tup [.ot (.pointer none), .it .i64 1]) [XD d] := by
 refine As [34, 37, 38, 39] [] func9 ?_;have k1 := Io k hr;rw [hk] at k1;by_cases e1 : server < 0
 ·refine Aa e1 ?_
  exact Bj
 ·have e2 : server ≥ 20 := by omega
  refine Aa (an e1 e2) ?_;exact Bj
theorem YY (d : Dk) (f server : Int) (k : Key) (hk : k.right = true) (hr : -9223372036854775808 ≤ k.secret ∧ k.secret ≤ 9223372036854775807) (hs : 0 ≤ server ∧ server ≤ 19) (hf : ¬ (0 ≤ f ∧ f ≤ 6)) :
  AC prog 9 [.ptr 0 0, .it .i64 f, .it .i64 server, Cr k] [XD d] (.tup [.ot (.pointer none), .it .i64 1]) [XD d] := by
 refine As [34, 37, 38, 39] [] func9 ?_;have k1 := Io k hr;rw [hk] at k1;have k2 := Yb d f hf;have e1 : ¬ server < 0 := by omega
 have e2 : ¬ server ≥ 20 := by omega
 refine Aa (an e1 e2) ?_;refine cp k1 ?_;refine Aa (an e1 e2) ?_;refine c1 0 k2 ?_;refine run ?_;exact Bj
theorem YX (d : Dk) (f server : Int) (k : Key) (hk : k.right = true) (hr : -9223372036854775808 ≤ k.secret ∧ k.secret ≤ 9223372036854775807) (hs : 0 ≤ server ∧ server ≤ 19) (hf : 0 ≤ f ∧ f ≤ 6) (hb : (peek d f).1.length ≤ 16777216) (he : (AU d f).1 ≠ 0) :
  AC prog 9 [.ptr 0 0, .it .i64 f, .it .i64 server, Cr k] [XD d] (.tup [.ot (.pointer none), .it .i64 (AU d f).1]) [XD (AU d f).2] := by
 refine As [34, 37, 38, 39] [] func9 ?_;have k1 := Io k hr;rw [hk] at k1;have k2 := Ya d f hf hb he;have e1 : ¬ server < 0 := by omega
 have e2 : ¬ server ≥ 20 := by omega
 generalize AU d f = q at *;obtain ⟨en, d'⟩ := q;simp only at k2 he ⊢
 have hq : (en == 0) = false := by rw [beq_eq_false_iff_ne]; exact he
 refine Aa (an e1 e2) ?_;refine cp k1 ?_;refine Aa (an e1 e2) ?_;refine c1 0 k2 ?_;refine Aa (an he hq) ?_;exact Bj
end Pe
end
section
namespace Pe
open Tryz
open Go Go.RowKit Co Sg Ac It Sl Dm Wl Ql
set_option maxRecDepth 100000
set_option maxHeartbeats 4000000
abbrev PR (s : Scr) (k : Key) (d : Dk) (f : Int) (E : List It.Entry) (fl : Nat) : Ae :=
 [.cells (NV s), .cells [.it .i64 k.secret, .it .i64 k.pub], XD d, DC 4 d, .cells (Aj d.fs), .cells [.ptr 2 0, .it .i64 f, .sl (.own 6) ((AJ E).map .st)], .buf E.length 9 1,
 .cells [.ptr 5 0, .it .i64 s.server, .it .i64 k.secret, .it .i64 k.pub, .sl (.own 8) (E.map Az), .mp 9, .it .i64 (fl : Int)], .buf E.length 82 50, B9 (E.map dg), Fp 3 f E, Fq 10 s.server k E fl]
theorem Qn (E : List It.Entry) (fl : Nat) (a n : Int) : (DI E fl a n).length ≤ E.length := by
 unfold DI;split
 ·exact Nat.zero_le _
 ·rw [List.length_take, List.length_drop, List.length_take]; omega
theorem Qm {E : List It.Entry} {fl : Nat} {a n : Int} {e : It.Entry} (h : e ∈ DI E fl a n) : e ∈ E := by
 unfold DI at h;split at h
 ·cases h
 ·exact List.mem_of_mem_take (List.mem_of_mem_drop (List.mem_of_mem_take h))
theorem Zbs (s : Scr) (k : Key) (d : Dk) (f : Int) (E : List It.Entry) (fl : Nat) (T : Ae) : SubOk (List.range 12) (PR s k d f E fl ++ T) (PR s k d f E fl) := ⟨by decide, rfl, fun i o hi => by
 match i, hi with
 | 0, hi => cases hi; exact ⟨rfl, rfl⟩
 | 1, hi => cases hi; exact ⟨rfl, rfl⟩
 | 2, hi => cases hi; exact ⟨rfl, rfl⟩
 | 3, hi => cases hi; exact ⟨rfl, rfl⟩
 | 4, hi => cases hi; exact ⟨rfl, rfl⟩
 | 5, hi => cases hi; exact ⟨rfl, rfl⟩
 | 6, hi => cases hi; exact ⟨rfl, rfl⟩
 | 7, hi => cases hi; exact ⟨rfl, rfl⟩
 | 8, hi => cases hi; exact ⟨rfl, rfl⟩
 | 9, hi => cases hi; exact ⟨GQ _ _, congrArg some (F9 _ _).symm⟩
 | 10, hi => cases hi; exact ⟨rfl, rfl⟩
 | 11, hi => cases hi; exact ⟨rfl, rfl⟩⟩
theorem Zbr (s : Scr) (k : Key) (d : Dk) (f : Int) (E : List It.Entry) (fl : Nat) (o5 o6 o7 o8 o9 o10 o11 o12 o13 : SObj) : SubOk [0, 1, 2, 3, 4, 14, 15, 16, 17, 18, 19, 20] [.cells (NV s), .cells [.it .i64 k.secret, .it .i64 k.pub], XD d, DC 4 d, .cells (Aj d.fs), o5, o6, o7, o8, o9, o10, o11, o12, o13,
    .cells [.ptr 2 0, .it .i64 f, .sl (.own 15) ((AJ E).map .st)], .buf E.length 9 1, .cells [.ptr 14 0, .it .i64 s.server, .it .i64 k.secret, .it .i64 k.pub, .sl (.own 17) (E.map Az), .mp 18, .it .i64 (fl : Int)], .buf E.length 82 50, B9 (E.map dg), Fp 3 f E, Fq 19 s.server k E fl] (PR s k d f E fl) := ⟨by decide, rfl, fun i o hi => by
 match i, hi with
 | 0, hi => cases hi; exact ⟨rfl, rfl⟩
 | 1, hi => cases hi; exact ⟨rfl, rfl⟩
 | 2, hi => cases hi; exact ⟨rfl, rfl⟩
 | 3, hi => cases hi; exact ⟨rfl, rfl⟩
 | 4, hi => cases hi; exact ⟨rfl, rfl⟩
 | 5, hi => cases hi; exact ⟨rfl, rfl⟩
 | 6, hi => cases hi; exact ⟨rfl, rfl⟩
 | 7, hi => cases hi; exact ⟨rfl, rfl⟩
 | 8, hi => cases hi; exact ⟨rfl, rfl⟩
 | 9, hi => cases hi; exact ⟨GQ _ _, congrArg some (F9 _ _).symm⟩
 | 10, hi => cases hi; exact ⟨rfl, rfl⟩
 | 11, hi => cases hi; exact ⟨rfl, rfl⟩⟩
theorem slogRuns_c (s : Scr) (f : Int) (hw : WinS s) : AC prog 3 [NU s, .it .i64 f] [] (.bo true) [] := by
 refine As [4, 5, 6, 11, 22] [25, 26, 23, 24, 27] func3 ?_;have kf := Zdc s hw.steps hw.items hw.seed hw.x;refine run ?_;refine cp kf ?_;by_cases hfw : Jq s = true
 rotate_left
 ·have hfw : Jq s = false := by simpa using hfw
  refine Aa hfw ?_;refine cp Q0 ?_;refine run ?_;exact Ab
 obtain ⟨hi, hl, hsd⟩ := Zdb hfw;have kk := Zco s.seed (by omega)
 have hkr := Tn s.seed;have hkk := Zcp s.seed;generalize hkey : Jj s.seed = k at *;have hne : ∀ l : Int, (l != l) = false := fun l => by simp
 refine Aa hfw ?_;refine cp kk ?_;refine run ?_;refine Au (AC.newAt U4 _) ?_;refine run ?_;refine Au (AC.rdn Za5 _) ?_;by_cases hs : 0 ≤ s.server ∧ s.server ≤ 19
 rotate_left
 ·have ka := YZ dk0 f s.server k hkr hkk hs
  have kb := Z3 dk0 f s.server k hkr hkk hs;refine run ?_;refine c1 2 ka ?_;refine run ?_;refine FQ 3 4 kb ?_;refine run ?_;exact Ab
 by_cases hf6 : 0 ≤ f ∧ f ≤ 6
 rotate_left
 ·have ka := YY dk0 f s.server k hkr hkk hs hf6
  have kb := Z2 dk0 f s.server k hkr hkk hs hf6;refine run ?_;refine c1 2 ka ?_;refine run ?_;refine FQ 3 4 kb ?_;refine run ?_;exact Ab
 obtain ⟨q1, q2, q3⟩ := Zd4 hf6;have ka := QX dk0 (AU dk0 f).2 f s.server k [] hkr hkk hs hf6 (Prod.ext q1 rfl) (by rw [q3]; rfl) (by rw [q3]; decide) Good.nil (by decide)
 have kb := Rz dk0 ⟨dk0_ok, rfl⟩ f s.server k [] hkr hkk hs hf6 q1 (by rw [q3]; rfl) Good.nil (by decide)
 generalize (AU dk0 f).2 = d0 at *;refine run ?_;refine Pr 2 ka ?_;refine run ?_;refine Vi 3 4 kb ?_;refine run ?_;clear ka kb kf kk;have hszx : AE 4 (s.steps.map Fw) = true := BN 4 Fw (fun _ => rfl) _
 have hszi : AE 49 (s.items.map Bc) = true := BN 49 Bc (fun _ => rfl) _
 refine Bp (fun m e S => e 1 = .it .i64 f ∧ e 2 = .ptr 0 0 ∧ e 5 = .ptr 1 0 ∧ e 6 = .ptr 2 0 ∧ e 7 = .ptr 3 0 ∧ e 8 = .ptr 7 0 ∧ e 10 = .ptr 11 0 ∧ ∃ (j : Nat) (d : Dk) (E : List It.Entry) (fl : Nat), e 12 = .it .i64 (j : Int) ∧ S = PR s k d f E fl ∧ QF d f E ∧ fl ≤ E.length ∧ E.length ≤ j ∧ j ≤ s.steps.length ∧ m = s.steps.length - j) s.steps.length
  ⟨Ad, Ad, Ad, Ad, Ad, Ad, Ad, 0, d0, [], 0, Ad, rfl, q2, Nat.le_refl _, Nat.le_refl _, Nat.zero_le _, rfl⟩ ?_
 rintro m e S ⟨s1, s2, s5, s6, s7, s8, s10, j, d, E, fl, s12, rfl, hq, hfl, hEj, hj, rfl⟩
 by_cases hlt : j < s.steps.length
 rotate_left
 ·have ke := NT d f s.server k E fl (-1) 100 (by omega) hfl (fun e he => (hq.good.right e he).2)
  have kg := Ro d f s.server k E fl (-1) 100 (by omega) hfl
  have ks := Ri (DI E fl (-1) 100) (by have := Qn E fl (-1) 100; omega) (fun e he => FH (hq.good.right e (Qm he)).2)
  generalize DI E fl (-1) 100 = W at *;have hlt' : ¬ (j : Int) < (s.steps.length : Int) := by omega
  refine Aa (A9 s1 s2 s5 s6 s7 s8 s10 s12 hlt') ?_;refine Jx 2 5 6 7 8 9 ke ?_;refine Aa (A8 s1 s2 s5 s6 s7 s8 s10 s12) ?_;refine MU 3 4 10 11 kg ?_;refine Aa (A8 s1 s2 s5 s6 s7 s8 s10 s12) ?_;refine cp ks ?_;refine run ?_;exact Ab
 have ga : s.steps[j]? = some s.steps[j] := List.getElem?_eq_getElem hlt
 have hxx := hw.x s.steps[j] (List.getElem_mem hlt);generalize s.steps[j] = x at *;refine Gu (fun e S => e 1 = .it .i64 f ∧ e 2 = .ptr 0 0 ∧ e 5 = .ptr 1 0 ∧ e 6 = .ptr 2 0 ∧ e 7 = .ptr 3 0 ∧ e 12 = .it .i64 (j : Int) ∧ e 8 = .ptr 7 0 ∧ e 10 = .ptr 11 0 ∧ S = PR s k d f E fl) (fun Kt hK => ?_) ?_
 ·refine Aa (A8 s1 s2 s5 s6 s7 s12 s8 s10) ?_
  exact hK _ _ ⟨Ad, Ad, Ad, Ad, Ad, Ad, Ad, Ad, rfl⟩
 clear s1 s2 s5 s6 s7 s8 s10 s12;rintro e S ⟨s1, s2, s5, s6, s7, s12, s8, s10, rfl⟩
 rw [IQ, Nk, EG, EG];have hits : Iz (GO s.items x.Item) := by
  unfold GO;rw [List.getD_eq_getElem?_getD]
  cases h : s.items[(Ev x.Item s.items.length).toNat]? with
  | none => exact ⟨Ee, by decide, by decide, Fh⟩
  | some i => exact hw.z i (List.mem_of_getElem? h)
 refine Gu (fun e S => e 1 = .it .i64 f ∧ e 2 = .ptr 0 0 ∧ e 5 = .ptr 1 0 ∧ e 6 = .ptr 2 0 ∧ e 7 = .ptr 3 0 ∧ e 12 = .it .i64 (j : Int) ∧ e 8 = .ptr 7 0 ∧ e 10 = .ptr 11 0 ∧ e 13 = .ptr 12 0 ∧ e 14 = .ptr 13 0 ∧ ∃ cs : List AV, cs.length = 49 ∧ (AV.agg cs).wk = Bc (GO s.items x.Item) ∧ S = PR s k d f E fl ++ [.cells (NK x), .cells cs]) (fun Kt hK => ?_) ?_
 ·by_cases hne : s.items.length = 0
  ·have hnil : s.items = [] := List.eq_nil_of_length_eq_zero hne
   have hpi : GO s.items x.Item = AI := by rw [hnil]; rfl
   rw [hpi] at hK;have e0 : ¬ (s.items.length : Int) > 0 := by omega
   refine Aa (Bg s1 s2 s5 s6 s7 s12 s8 s10 ga hszx e0) ?_;exact hK _ _ ⟨Ad, Ad, Ad, Ad, Ad, Ad, Ad, Ad, Ad, Ad, _, by rfl, by rfl, rfl⟩
  ·have e0 : (s.items.length : Int) > 0 := by omega
   have kp := Sq x.Item s.items.length hxx.I ⟨by omega, by omega⟩
   have hpn := Og (n := x.Item) (m := (s.items.length : Int)) (by omega)
   have hgi : s.items[(Ev x.Item s.items.length).toNat]? = some (GO s.items x.Item) := by
    unfold GO;rw [List.getD_eq_getElem?_getD, List.getElem?_eq_getElem (by omega)]; rfl
   have e1 : 0 ≤ Ev x.Item s.items.length := hpn.1;generalize GO s.items x.Item = it at *;generalize Ev x.Item s.items.length = p at *;refine Aa (Bg s1 s2 s5 s6 s7 s12 s8 s10 ga hszx e0) ?_;refine cp kp ?_;refine Aa (Bg s1 s2 s5 s6 s7 s12 s8 s10 e1 hgi hszi) ?_;exact hK _ _ ⟨Ad, Ad, Ad, Ad, Ad, Ad, Ad, Ad, Ad, Ad, _, by rfl, by rfl, rfl⟩
 clear s1 s2 s5 s6 s7 s12 s8 s10;rintro e S ⟨s1, s2, s5, s6, s7, s12, s8, s10, s13, s14, cs, hcl, hcw, rfl⟩
 have kp := Sq x.Do 8 hxx.D (by decide)
 have hp8 := Og (n := x.Do) (m := 8) (by decide)
 generalize GO s.items x.Item = it at *;generalize Ev x.Do 8 = p at *;have hA := And.intro s1 (A9 s2 s5 s6 s7 s12 s8 s10 s13 s14);have hzE : ∀ e ∈ E, Iz e.item := fun e he => FH (hq.good.right e he).2
 refine Gu (fun e S => e 1 = .it .i64 f ∧ e 2 = .ptr 0 0 ∧ e 5 = .ptr 1 0 ∧ e 6 = .ptr 2 0 ∧ e 7 = .ptr 3 0 ∧ e 12 = .it .i64 (j : Int) ∧ ∃ (d' : Dk) (E' : List It.Entry) (fl' : Nat), QF d' f E' ∧ fl' ≤ E'.length ∧ E'.length ≤ E.length + 1 ∧ ((e 8 = .ptr 7 0 ∧ e 10 = .ptr 11 0 ∧ S = PR s k d' f E' fl' ++ [.cells (NK x), .cells cs]) ∨ (e 8 = .ptr 16 0 ∧ e 10 = .ptr 20 0 ∧ ∃ o5 o6 o7 o8 o9 o10 o11 : SObj,
   S = [.cells (NV s), .cells [.it .i64 k.secret, .it .i64 k.pub], XD d', DC 4 d', .cells (Aj d'.fs), o5, o6, o7, o8, o9, o10, o11, .cells (NK x), .cells cs,
    .cells [.ptr 2 0, .it .i64 f, .sl (.own 15) ((AJ E').map .st)], .buf E'.length 9 1, .cells [.ptr 14 0, .it .i64 s.server, .it .i64 k.secret, .it .i64 k.pub, .sl (.own 17) (E'.map Az), .mp 18, .it .i64 (fl' : Int)], .buf E'.length 82 50, B9 (E'.map dg), Fp 3 f E', Fq 19 s.server k E' fl']))) (fun Kt hK => ?_) ?_
 ·obtain rfl | rfl | rfl | rfl | rfl | rfl | rfl | rfl : p = 0 ∨ p = 1 ∨ p = 2 ∨ p = 3 ∨ p = 4 ∨ p = 5 ∨ p = 6 ∨ p = 7 := by omega
  iterate 3 focus
   have ka := I4 d f s.server k E fl it x.Now hits (by omega) (fun h => Jb h)
   have kb := Rp d hq.ok hq.armed f s.server k E fl it x.Now hits hzE (by omega)
   obtain ⟨g1, g2, g3⟩ := hq.add hf6 it x.Now;generalize BO d f E it x.Now = A at *;obtain ⟨⟨ai, ae⟩, d', E'⟩ := A;simp only at ka kb g1 g2 g3
   refine Aa hA ?_;refine cp kp ?_;refine Aa (an hA hcl) ?_;refine Ej 2 5 6 7 8 9 ka ?_ (hg := congrArg (fun v => [AV.ptr 7 0, v, AV.it .i64 x.Now]) hcw)
   refine Aa (an hA hcl) ?_;refine MV 3 4 10 11 kb ?_ (hg := congrArg (fun v => [AV.ptr 11 0, v, AV.it .i64 x.Now]) hcw)
   refine Aa (an hA hne) ?_;exact hK _ _ ⟨Ad, Ad, Ad, Ad, Ad, Ad, d', E', fl, g1, by omega, g2, .inl ⟨Ad, Ad, rfl⟩⟩
  iterate 2 focus
   have ka := NR d f s.server k E fl;have kb := Rn d hq.ok hq.armed f s.server k E fl;have g1 := hq.flush hf6;have g2 : (if (flushD d f).1 = 0 then E.length else fl) ≤ E.length := by split <;> omega
   generalize (if (flushD d f).1 = 0 then E.length else fl) = fl' at *
   generalize flushD d f = A at *;obtain ⟨en, d'⟩ := A;simp only at ka kb g1
   refine Aa hA ?_;refine cp kp ?_;refine Aa hA ?_;refine Ej 2 5 6 7 8 9 ka ?_;refine Aa hA ?_;refine MV 3 4 10 11 kb ?_;refine Aa (an hA hne) ?_;exact hK _ _ ⟨Ad, Ad, Ad, Ad, Ad, Ad, d', E, fl', g1, g2, by omega, .inl ⟨Ad, Ad, rfl⟩⟩
  focus
   obtain ⟨jj, r1, r2, r3, r4, r5, r6, r7⟩ := hq.reopen x.Keep hf6;have kc := Zed d .ro x.Keep;have kc' := Za7 d hq.ok hq.armed x.Keep;have ka := I4 (crash d x.Keep) f s.server k E fl it x.Now hits (by omega) (fun h => Jb h)
   have kb := Rp (crash d x.Keep) r5 r6 f s.server k E fl it x.Now hits hzE (by omega)
   obtain ⟨w1, w2⟩ := ZdN (E := E) (f := f) r7 it x.Now;rw [w1, w2] at ka kb;have kl := NR (crash d x.Keep) f s.server k E fl;have kl' := Rn (crash d x.Keep) r5 r6 f s.server k E fl;rw [ZdO r7] at kl kl';simp only [show ¬ (8 : Int) = 0 by decide, if_false] at kl kl'
   have ks := Zd9 (crash d x.Keep);have ks' := Za3 (crash d x.Keep);generalize (BO (crash d x.Keep) f E it x.Now).1 = A at *;obtain ⟨ai, ae⟩ := A;simp only at ka kb
   have hrl : (E.take jj).length = jj := by rw [List.length_take]; omega
   clear w1 w2;generalize hd2 : bring (crash d x.Keep) = d2 at *;have o2 : Un d2 := by rw [← hd2]; exact ⟨bring_ok r5, r6⟩
   clear hd2;generalize crash d x.Keep = d1 at *;refine Aa hA ?_;refine cp kp ?_;refine Aa hA ?_;refine c1 2 kc ?_;refine Aa hA ?_;refine FQ 3 4 kc' ?_;refine Aa (an hA hcl) ?_;refine Ej 2 5 6 7 8 9 ka ?_ (hg := congrArg (fun v => [AV.ptr 7 0, v, AV.it .i64 x.Now]) hcw)
   refine Aa (an hA hcl) ?_;refine MV 3 4 10 11 kb ?_ (hg := congrArg (fun v => [AV.ptr 11 0, v, AV.it .i64 x.Now]) hcw)
   refine Aa (an hA hne) ?_;refine Ej 2 5 6 7 8 9 kl ?_;refine Aa (an hA hne) ?_;refine MV 3 4 10 11 kl' ?_;refine Aa (an hA hne) ?_;refine c1 2 ks ?_;refine Aa hA ?_;refine FQ 3 4 ks' ?_;refine Aa hA ?_;by_cases ho : (AU d2 f).1 = 0
   ·have ko := QX d2 (AU d2 f).2 f s.server k (E.take jj) hkr hkk hs hf6 (Prod.ext ho rfl) r2 r3 r4.good (by omega)
    have ko' := Rz d2 o2 f s.server k (E.take jj) hkr hkk hs hf6 ho r2 r4.good (by omega)
    clear ho r2 r3;generalize (AU d2 f).2 = d4 at *;generalize E.take jj = E' at *;refine Pr 2 ko ?_;refine Aa hA ?_;refine Vi 3 4 ko' ?_;refine Aa hA ?_;exact hK _ _ ⟨Ad, Ad, Ad, Ad, Ad, Ad, d4, E', E'.length, r4, Nat.le_refl _, by omega, .inr ⟨Ad, Ad, _, _, _, _, _, _, _, rfl⟩⟩
   ·have ko := YX d2 f s.server k hkr hkk hs hf6 r3 ho
    have ko' := Z1 d2 o2 f s.server k hkr hkk hs hf6 ho;clear r2 r3 r4;generalize AU d2 f = O at *;obtain ⟨oe, d4⟩ := O;simp only at ko ko' ho
    refine c1 2 ko ?_;refine Aa hA ?_;refine FQ 3 4 ko' ?_;refine Aa (an hA hne) ?_;exact Ab
  focus
   have ka := Zec d 1 (by decide)
   have kb := Za6 d 1;refine Aa hA ?_;refine cp kp ?_;refine Aa hA ?_;refine c1 2 ka ?_;refine Aa hA ?_;refine FQ 3 4 kb ?_;refine Aa hA ?_;exact hK _ _ ⟨Ad, Ad, Ad, Ad, Ad, Ad, lose d 1, E, fl, hq.lose 1 (by decide), hfl, by omega, .inl ⟨Ad, Ad, rfl⟩⟩
  focus
   have ka := NT d f s.server k E fl x.Item x.Now (by omega) hfl (fun e he => (hq.good.right e he).2)
   have kb := Ro d f s.server k E fl x.Item x.Now (by omega) hfl
   have ks := Ri (DI E fl x.Item x.Now) (by have := Qn E fl x.Item x.Now; omega) (fun e he => hzE e (Qm he))
   generalize DI E fl x.Item x.Now = W at *;refine Aa hA ?_;refine cp kp ?_;refine Aa hA ?_;refine Jx 2 5 6 7 8 9 ka ?_;refine Aa hA ?_;refine MU 3 4 10 11 kb ?_;refine Aa hA ?_;refine cp ks ?_;refine Aa hA ?_;exact hK _ _ ⟨Ad, Ad, Ad, Ad, Ad, Ad, d, E, fl, hq, hfl, by omega, .inl ⟨Ad, Ad, rfl⟩⟩
 clear s1 s2 s5 s6 s7 s12 s8 s10 s13 s14;rintro e S ⟨s1, s2, s5, s6, s7, s12, d', E', fl', q1, q2, q3, hcase⟩
 have hzE' : ∀ e ∈ E', Iz e.item := fun e he => FH (q1.good.right e he).2
 have kl := NO d' f s.server k E' fl';have kh := NN d' f s.server k E' fl' hkk (by omega) hzE' q2
 have kh' := ZM d' f s.server k E' fl' hkk (by omega) hzE' q2
 have hnb : ∀ l : By, (l != l) = false := fun l => by simp
 generalize FL k s.server E' fl' = hd at *;rcases hcase with ⟨s8, s10, rfl⟩ | ⟨s8, s10, o5, o6, o7, o8, o9, o10, o11, rfl⟩
 ·refine Aa (A8 s1 s2 s5 s6 s7 s12 s8 s10) ?_
  refine Jx 2 5 6 7 8 9 kl ?_;refine Aa (A9 s1 s2 s5 s6 s7 s12 s8 s10 hne) ?_;refine Jx 2 5 6 7 8 9 kh ?_;refine Aa (A9 s1 s2 s5 s6 s7 s12 s8 s10 hne) ?_;refine MU 3 4 10 11 kh' ?_;refine Aa (Gv s1 s2 s5 s6 s7 s12 s8 s10 hne hnb) ?_;exact N3 (s.steps.length - (j + 1)) _ _ (Ay.sub 0 (List.range 12) (((((((((Gt.nil _ _).cons 1 (.it .i64 f) (.it .i64 f) rfl rfl Ad).cons 2 (.ptr 0 0) (.ptr 0 0) rfl rfl Ad).cons 5 (.ptr 1 0) (.ptr 1 0) rfl rfl Ad).cons 6 (.ptr 2 0) (.ptr 2 0) rfl rfl Ad).cons 7 (.ptr 3 0) (.ptr 3 0) rfl rfl Ad).cons 8 (.ptr 7 0) (.ptr 7 0) rfl rfl Ad).cons 10 (.ptr 11 0) (.ptr 11 0) rfl rfl Ad).cons 12 (.it .i64 ((j + 1 : Nat) : Int)) (.it .i64 ((j + 1 : Nat) : Int)) rfl rfl Ad) (Zbs s k d' f E' fl' _) rfl) (by omega) ⟨Ad, Ad, Ad, Ad, Ad, Ad, Ad, j + 1, d', E', fl', Ad, rfl, q1, q2, by omega, by omega, rfl⟩
 ·refine Aa (A8 s1 s2 s5 s6 s7 s12 s8 s10) ?_
  refine Jx 2 14 15 16 17 18 kl ?_;refine Aa (A9 s1 s2 s5 s6 s7 s12 s8 s10 hne) ?_;refine Jx 2 14 15 16 17 18 kh ?_;refine Aa (A9 s1 s2 s5 s6 s7 s12 s8 s10 hne) ?_;refine MU 3 4 19 20 kh' ?_;refine Aa (Gv s1 s2 s5 s6 s7 s12 s8 s10 hne hnb) ?_;exact N3 (s.steps.length - (j + 1)) _ _ (Ay.sub 0 [0, 1, 2, 3, 4, 14, 15, 16, 17, 18, 19, 20] (((((((((Gt.nil _ _).cons 1 (.it .i64 f) (.it .i64 f) rfl rfl Ad).cons 2 (.ptr 0 0) (.ptr 0 0) rfl rfl Ad).cons 5 (.ptr 1 0) (.ptr 1 0) rfl rfl Ad).cons 6 (.ptr 2 0) (.ptr 2 0) rfl rfl Ad).cons 7 (.ptr 3 0) (.ptr 3 0) rfl rfl Ad).cons 8 (.ptr 7 0) (.ptr 16 0) rfl rfl Ad).cons 10 (.ptr 11 0) (.ptr 20 0) rfl rfl Ad).cons 12 (.it .i64 ((j + 1 : Nat) : Int)) (.it .i64 ((j + 1 : Nat) : Int)) rfl rfl Ad) (Zbr s k d' f E' fl' o5 o6 o7 o8 o9 o10 o11 _ _) rfl) (by omega) ⟨Ad, Ad, Ad, Ad, Ad, Ad, Ad, j + 1, d', E', fl', Ad, rfl, q1, q2, by omega, by omega, rfl⟩
end Pe
end
end Go.Proofs.YtldohjjoicmfpaaGreatDoor
