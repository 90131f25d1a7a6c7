import Derived.Test.YtiidnoejnphocaaGreatDoorKs17
set_option linter.unusedSectionVars false
set_option linter.unusedVariables false
set_option linter.unusedSimpArgs false
namespace Go.Proofs.YtiidnoejnphocaaGreatDoor
section
namespace Pe
open _root_.Go.Proofs.Tryz
open Go Go.RowKit Co Sg Ac It Sl Tp
set_option maxRecDepth 100000
set_option maxHeartbeats 4000000
theorem Gc (s : By) (h : s.length ≤ 1000000) : (text s).length ≤ s.length + 9 := by
 have := DM (n := s.length) (by omega)
 unfold text;rw [List.length_append];omega
theorem ZaZ {l : List By} (h : l.length ≤ 10) (hs : ∀ s ∈ l, s.length ≤ 5000) : (list l).length ≤ 60000 := by
 have key : ∀ m : List By, (∀ s ∈ m, s.length ≤ 5000) → (m.map text).flatten.length ≤ m.length * 5009 := by
  intro m;induction m with
  | nil => intro _; simp
  | cons s m ih =>
   intro h;have e0 := h s (by simp)
   have e1 := Gc s (by omega)
   have e2 := ih fun x hx => h x (by simp [hx])
   rw [List.map_cons, List.flatten_cons, List.length_append, List.length_cons, Nat.succ_mul];omega
 have h3 := key l hs;have h4 : l.length * 5009 ≤ 10 * 5009 := Nat.mul_le_mul_right _ h;have h5 := DM (n := l.length) (by omega)
 unfold list;rw [List.length_append];omega
theorem Lj (l : List By) : (hL l).length = 32 := rfl
theorem Lk (l : List By) (h : l.length ≤ 10) (hs : ∀ s ∈ l, s.length ≤ 5000) : AC prog 303 [At l] [] (.st (hL l)) [] := by
 have k1 := Ps l (by omega) (fun s hx => by have := hs s hx; omega)
 have hl := ZaZ h hs;have k2 := FN (list l) (by omega)
 unfold hL;generalize list l = x at *;refine Ai [161, 118] [] func303 ?_;refine run ?_;refine cp k1 ?_;refine run ?_;refine cp k2 ?_;refine run ?_;exact Ab
def EV (key nonce : By) (i : Nat) : By := hL [LV, key, nonce, Ag ((i / 32 : Nat) : Int)]
theorem SC (key nonce s : By) : (Ft key nonce s).length = s.length := by simp [Ft]
theorem RH (n k : Nat) (h : k ≤ n) : (List.range n).take k = List.range k := by
 apply List.ext_getElem
 ·simp; omega
 ·intro i h1 h2
  simp
theorem ZaK (key nonce s : By) (k : Nat) (h : k < s.length) : (Ft key nonce s).take (k + 1) = (Ft key nonce s).take k ++ [(s.getD k 0) ^^^ ((EV key nonce k).getD (k % 32) 0)] := by
 unfold Ft EV;rw [← List.map_take, ← List.map_take, RH _ _ (by omega), RH _ _ (by omega), List.range_succ, List.map_append]
 rfl
theorem ZaJ (key nonce s : By) (hk : key.length ≤ 5000) (hn : nonce.length ≤ 5000) (hs : s.length ≤ 100000) : AC prog 299 [.st key, .st nonce, .st s] [] (.st (Ft key nonce s)) [] := by
 have hml := SC key nonce s;have hmt := ZaK key nonce s;refine Ai [80, 303] [] func299 ?_;refine run ?_;refine C2 (fun m e S => e 0 = .st key ∧ e 1 = .st nonce ∧ e 2 = .st s ∧ ∃ (k : Nat) (acc blk : By) (T : Ae), e 9 = .it .i64 (k : Int) ∧ e 7 = .sl (.own 0) (acc.map u8) ∧ e 8 = .st blk ∧ S = .buf acc.length 5 1 :: T ∧ acc = (Ft key nonce s).take k ∧ (k % 32 ≠ 0 → blk = EV key nonce k) ∧ k ≤ s.length ∧ m = s.length - k) s.length _ _ (Ay.reserve 0 7 (es := []) (by rfl) 5 1)
  ⟨Ad, Ad, Ad, 0, [], [], [], Ad, Ad, Ad, rfl, by simp, fun h => absurd rfl h, by omega, rfl⟩ ?_
 rintro m e S ⟨s0, s1, s2, k, acc, blk, T, s9, s7, s8, rfl, hacc, hblk, hk', rfl⟩
 have hal : acc.length = k := by rw [hacc, List.length_take, hml, Nat.min_eq_left hk']
 have hu8 : ∀ b : UInt8, u8 b = .it .u8 (b.toNat : Int) := fun _ => rfl
 by_cases hlt : k < s.length
 ·have hg : s[k]? = some (s.getD k 0) := by rw [List.getD_eq_getElem?_getD, List.getElem?_eq_getElem hlt]; rfl
  have hst := hmt k hlt;rw [← hacc] at hst;have hlt' : (k : Int) < (s.length : Int) := by omega
  have w1 := Bx (k := k) (by omega)
  have wd : IntKind.i64.wrap (((k : Nat) : Int).tdiv 32) = ((k / 32 : Nat) : Int) := by
   rw [show ((k : Nat) : Int).tdiv 32 = ((k / 32 : Nat) : Int) from rfl]
   exact wrap64 (by omega) (by omega)
  have wr : ((k : Nat) : Int).tmod 32 = ((k % 32 : Nat) : Int) := rfl;have hb32 : (EV key nonce k).length = 32 := Lj _;have hgb : (EV key nonce k)[k % 32]? = some ((EV key nonce k).getD (k % 32) 0) := by rw [List.getD_eq_getElem?_getD, List.getElem?_eq_getElem (show k % 32 < (EV key nonce k).length by omega)]; rfl
  have hx8 : ∀ a b : UInt8, Go.bits .xor .u8 (a.toNat : Int) (b.toNat : Int) = ((a ^^^ b).toNat : Int) := fun a b => by rw [u8_xor_nat _ _ a.toNat_lt b.toNat_lt, ← UInt8.toNat_xor]
  have hnext : (k + 1) % 32 ≠ 0 → EV key nonce (k + 1) = EV key nonce k := fun h => by
   unfold EV;rw [show (k + 1) / 32 = k / 32 by omega]
  have knum := AL ((k / 32 : Nat) : Int) (by omega)
  have hnl := Aj ((k / 32 : Nat) : Int) (by omega)
  have kh := Lk [LV, key, nonce, Ag ((k / 32 : Nat) : Int)] (by simp) (by
   simp only [List.forall_mem_cons];refine ⟨by decide, hk, hn, by omega, fun x hx => by cases hx⟩)
  change AC _ _ _ _ (.st (EV key nonce k)) _ at kh;have hwl : (At [LV, key, nonce, Ag ((k / 32 : Nat) : Int)]) = .sl .ro [.st [115, 116, 114, 101, 97, 109], .st key, .st nonce, .st (Ag ((k / 32 : Nat) : Int))] := rfl;rw [hwl] at kh;generalize Ag ((k / 32 : Nat) : Int) = nm at *;generalize hcb : EV key nonce k = B at *;generalize s.getD k 0 = c1 at *;generalize B.getD (k % 32) 0 = c2 at *;by_cases h0 : k % 32 = 0
  ·have q0 : (((k % 32 : Nat) : Int) == 0) = true := by rw [h0]; rfl
   refine Aa (B1 @s0 @s1 @s2 @s9 @s7 @s8 @hlt' @wr @q0 @wd) ?_;refine cp knum ?_;refine Aa (A6 @s0 @s1 @s2 @s9 @s7 @s8) ?_;refine cp kh ?_;refine Aa (Aw @s0 @s1 @s2 @s9 @s7 @hg @hgb @wr @hu8 @hx8 @w1) ?_;exact Ao (s.length - (k + 1)) (by omega) ⟨Ad, Ad, Ad, k + 1, acc ++ [c1 ^^^ c2], B, _, Ad, by rw [List.map_append]; exact Ad, Ad, by rw [List.length_append]; rfl, hst.symm, fun h => (hnext h).symm, by omega, rfl⟩
  ·have q0 : (((k % 32 : Nat) : Int) == 0) = false := beq_eq_false_iff_ne.2 (by omega)
   have hbe := hblk h0;rw [hbe] at s8;refine Aa (an @s0 (an @s1 (an @s2 (Aw @s9 @s7 @s8 @hlt' @wr @q0 @hg @hgb @hu8 @hx8 @w1)))) ?_;exact Ao (s.length - (k + 1)) (by omega) ⟨Ad, Ad, Ad, k + 1, acc ++ [c1 ^^^ c2], B, _, Ad, by rw [List.map_append]; exact Ad, Ad, by rw [List.length_append]; rfl, hst.symm, fun h => (hnext h).symm, by omega, rfl⟩
 ·obtain rfl : k = s.length := by omega
  rw [List.take_of_length_le (by omega)] at hacc
  have hbo : bytesOf (acc.map u8) = some acc := JE acc;have hlt' : ¬ (s.length : Int) < (s.length : Int) := by omega
  rw [← hacc];refine Aa (A8 @s0 @s1 @s2 @s9 @s7 @s8 @hlt' @hbo) ?_;exact Ab
theorem XY (key nonce data : By) (hk : key.length ≤ 5000) (hn : nonce.length ≤ 5000) (hs : data.length ≤ 5000) : AC prog 300 [.st key, .st nonce, .st data] [] (.st (L3 key nonce data)) [] := by
 have kh := Lk [LU, key, nonce, data] (by simp) (by
  simp only [List.forall_mem_cons];exact ⟨by decide, hk, hn, hs, fun x hx => by cases hx⟩)
 have hl : 16 ≤ (hL [LU, key, nonce, data]).length := by rw [Lj]; decide
 change AC _ _ [.sl .ro [.st [116, 97, 103], .st key, .st nonce, .st data]] _ _ _ at kh;unfold L3;generalize hL [LU, key, nonce, data] = u at *;refine Ai [303] [] func300 ?_;refine run ?_;refine cp kh ?_;refine Aa @hl ?_;exact Ab
theorem Rh (key nonce plain : By) (hk : key.length ≤ 5000) (hn : nonce.length ≤ 5000) (hs : plain.length ≤ 5000) : AC prog 213 [.st key, .st nonce, .st plain] [] (JF (GQ key nonce plain)) [] := by
 have hml := SC key nonce plain;have k1 := ZaJ key nonce plain hk hn (by omega)
 have k2 := XY key nonce (Ft key nonce plain) hk hn (by omega)
 unfold GQ;generalize Ft key nonce plain = d at *;generalize L3 key nonce d = t at *;refine Ai [299, 300] [] func213 ?_;refine run ?_;refine cp k1 ?_;refine run ?_;refine cp k2 ?_;refine run ?_;exact Ab
theorem Xk (a b c : Int) (ha : -9223372036854775808 ≤ a ∧ a ≤ 9223372036854775807) (hb : -9223372036854775808 ≤ b ∧ b ≤ 9223372036854775807) (hc : -9223372036854775808 ≤ c ∧ c ≤ 9223372036854775807) : AC prog 304 [.it .i64 a, .it .i64 b, .it .i64 c] [] (.st (JP a b c)) [] := by
 have k1 := AL a (by omega)
 have k2 := AL b (by omega)
 have k3 := AL c (by omega)
 have n1 := Aj a (by omega)
 have n2 := Aj b (by omega)
 have n3 := Aj c (by omega)
 have kh := Lk [NV, Ag a, Ag b, Ag c] (by simp) (by
  simp only [List.forall_mem_cons];exact ⟨by decide, by omega, by omega, by omega, fun x hx => by cases hx⟩)
 change AC _ _ [.sl .ro [.st [119, 114, 97, 112], .st (Ag a), .st (Ag b), .st (Ag c)]] _ _ _ at kh;unfold JP;generalize hL [NV, Ag a, Ag b, Ag c] = u at *;generalize Ag a = x at *;generalize Ag b = y at *;generalize Ag c = z at *;refine Ai [80, 303] [] func304 ?_;refine run ?_;refine cp k1 ?_;refine run ?_;refine cp k2 ?_;refine run ?_;refine cp k3 ?_;refine run ?_;refine cp kh ?_;refine run ?_;exact Ab
theorem Qy (p : Int) (seed plain : By) (hp : 1 ≤ p ∧ p ≤ 2305843009213693950) (hs : seed.length ≤ 5000) (hl : plain.length ≤ 5000) : AC prog 218 [.it .i64 p, .st seed, .st plain] [] (.tup [Ba (F9 p seed plain), .bo true]) [] := by
 have k1 := AL p (by omega)
 have n1 := Aj p (by omega)
 have k2 := Lk [JW, seed, Ag p] (by simp) (by
  simp only [List.forall_mem_cons];exact ⟨by decide, hs, by omega, fun x hx => by cases hx⟩)
 change AC _ _ [.sl .ro [.st [101, 112, 104], .st seed, .st (Ag p)]] _ _ _ at k2;have hd := Lj [JW, seed, Ag p];have k3 := Rm (hL [JW, seed, Ag p]) (by omega)
 unfold F9;simp only
 generalize hL [JW, seed, Ag p] = u at *;generalize hE : 1 + Sm.num u % 2305843009213693949 = E at *;have hEr : 1 ≤ E ∧ E ≤ 2305843009213693949 := by omega
 have e1 : ((Sm.num u : Nat) : Int).tmod 2305843009213693949 = ((Sm.num u % 2305843009213693949 : Nat) : Int) := rfl;have w1 : IntKind.i64.wrap (1 + ((Sm.num u % 2305843009213693949 : Nat) : Int)) = (E : Int) := by rw [wrap64 (by omega) (by omega)]; omega
 have k4 := Jl 37 (E : Int) (by omega) (by omega)
 have k5 := Jl p (E : Int) (by omega) (by omega)
 rw [G6 37 37 E rfl (by decide)] at k4
 rw [G6 p p.toNat E (by omega) (by omega)] at k5
 have q1 := Zzr 37 E;have q2 := Zzr p.toNat E;change AC _ _ _ _ (.it .i64 ((AY 37 E : Nat) : Int)) _ at k4;generalize AY 37 E = eph at *;generalize AY p.toNat E = sh at *;have k6 := Xk p (eph : Int) (sh : Int) (by omega) (by omega) (by omega)
 have hwl : (JP p (eph : Int) (sh : Int)).length = 32 := Lj _;generalize JP p (eph : Int) (sh : Int) = k at *;have k7 := Lk [Tp.wNonce, k] (by simp) (by
  simp only [List.forall_mem_cons];exact ⟨by decide, by omega, fun x hx => by cases hx⟩)
 change AC _ _ [.sl .ro [.st [110, 111, 110, 99, 101], .st k]] _ _ _ at k7;have hnl2 := Lj [Tp.wNonce, k];generalize hL [Tp.wNonce, k] = nc at *;have k8 := Rh k nc plain (by omega) (by omega) hl
 generalize GQ k nc plain = bx at *;have c1 : ¬ p < 1 := by omega
 have c2 : ¬ p ≥ 2305843009213693951 := by omega
 refine Ai [80, 303, 242, 82, 304, 213] [] func218 ?_;refine Aa (an @c1 @c2) ?_;refine cp k1 ?_;refine run ?_;refine cp k2 ?_;refine run ?_;refine cp k3 ?_;refine Aa (an @e1 @w1) ?_;refine cp k4 ?_;refine run ?_;refine cp k5 ?_;refine run ?_;refine cp k6 ?_;refine run ?_;refine cp k7 ?_;refine run ?_;refine cp k8 ?_;refine run ?_;exact Ab
end Pe
end
section
namespace Pe
open _root_.Go.Proofs.Tryz
open Go Go.RowKit Co Sg Ac It Sl Tp
set_option maxRecDepth 100000
set_option maxHeartbeats 4000000
abbrev PQ (c : Chn) : List AV := [.st c.id, BO c.acts, .sl .ro (c.keys.map Bd), .st c.prev, .it .i64 c.gen, .bo c.fork]
theorem Zao {l : List Ac.Act} {id : By} (h : (Ce (BD l id) id).length ≠ 1) : Cl l id = ⟨id, [], [], [], 0, decide (1 < (Ce (BD l id) id).length)⟩ := by
 unfold Cl;generalize Ce (BD l id) id = B at *;match B, h with
 | [], _ => rfl
 | [a], h => exact absurd rfl h
 | a :: b :: t, _ => rw [decide_eq_true (by simp)]
theorem Zan {l : List Ac.Act} {id : By} {a : Ac.Act} (h : Ce (BD l id) id = [a]) : Cl l id = C3 (l.length + 1) (BD l id) (CR ⟨id, [], [], [], 0, false⟩ a) := by
 unfold Cl;rw [h]
theorem ZbQ {n : Nat} {l : List Ac.Act} {c : Chn} (h : (Cd l c).length ≠ 1) : C3 (n + 1) l c = { c with fork := decide (1 < (Cd l c).length) } := by
 unfold C3;generalize Cd l c = B at *;match B, h with
 | [], _ => rfl
 | [a], h => exact absurd rfl h
 | a :: b :: t, _ => rw [decide_eq_true (by simp)]
theorem ZbP {n : Nat} {l : List Ac.Act} {c : Chn} {a : Ac.Act} (h : Cd l c = [a]) : C3 (n + 1) l c = C3 n l (CR c a) := by
 rw [C3, h]
theorem R5 {α : Type} {B : List α} (h : B.length = 1) : ∃ a, B = [a] := List.length_eq_one_iff.1 h
theorem Nl (ps : List Int) (l : List Ac.Act) (id : By) (hl : l.length ≤ 100) (hr : Bt l) : AC prog 62 [BN ps l, .st id] [] (BH (Cl l id)) [] := by
 have hal := ZeB l id;have hrL : Bt (BD l id) := fun a ha => hr a (VZ ha)
 have k1 := Zbo ps l id (by omega) hr
 have k2 := ZdY (BD l id) id (by omega) hrL
 have hszB := DV (Ce (BD l id) id);have hon := fun a (h : Ce (BD l id) id = [a]) => Zan h
 have hBm : ∀ a, Ce (BD l id) id = [a] → a ∈ BD l id ∧ a.kind = 0 := fun a h => Vy (by rw [h]; simp)
 by_cases hB : (Ce (BD l id) id).length = 1
 rotate_left
 ·have hn := Zao hB
  have q1 : (((Ce (BD l id) id).length : Int) != 1) = true := B6 (by omega)
  have q2 : decide (((Ce (BD l id) id).length : Int) > 1) = decide (1 < (Ce (BD l id) id).length) := by rw [decide_eq_decide]; omega
  rw [hn];generalize Ce (BD l id) id = B at *;generalize BD l id = L at *;refine Ai [124, 125, 126, 127, 128] [] func62 ?_;refine run ?_;refine cp k1 ?_;refine run ?_;refine cp k2 ?_;refine Aa (an @q1 @q2) ?_;exact Am
 obtain ⟨b, hb⟩ := R5 hB;have hon := hon b hb;obtain ⟨hbm, hbk⟩ := hBm b hb;have hbr := hrL b hbm;have q1 : (((Ce (BD l id) id).length : Int) != 1) = false := B7 (by omega)
 have hg0 : (Ce (BD l id) id)[0]? = some b := by rw [hb]; rfl
 have hB0 : (0 : Int) < ((Ce (BD l id) id).length : Int) := by omega
 have k3 := U6 ⟨id, [], [], [], 0, false⟩ b (by simp) (by simp) hbr
 have hok0 := NA (Nk id false) hbr fun _ => hbk
 have hac0 : (CR ⟨id, [], [], [], 0, false⟩ b).acts ≠ [] := by simp [CR]
 rw [hon];generalize Ce (BD l id) id = B at *;generalize BD l id = L at *;generalize CR ⟨id, [], [], [], 0, false⟩ b = c0 at *;refine Ai [124, 125, 126, 127, 128] [] func62 ?_;refine run ?_;refine cp k1 ?_;refine run ?_;refine cp k2 ?_;refine Aa (A4 @q1 @hg0 @hszB @hB0) ?_;refine cp k3 ?_;refine run ?_;refine AF (fun m e S => e 2 = .ptr 0 0 ∧ e 4 = .ptr 1 0 ∧ e 5 = .ptr 2 0 ∧ e 6 = BO L ∧ ∃ (i : Nat) (c : Chn) (T : Ae), e 8 = .it .i64 (i : Int) ∧ S = .cells [Bn ps, .sl .ro (l.map AH)] :: .cells [.st [], .sl .full [], .sl .full [], .st [], .it .i64 0, .bo false] :: .cells (PQ c) :: T ∧ C3 (l.length + 1) L c0 = C3 (l.length + 1 - i) L c ∧ COk c (i + 1) ∧ c.acts ≠ [] ∧ i ≤ l.length + 1 ∧ m = l.length + 1 - i) (l.length + 1) ⟨Ad, Ad, Ad, Ad, 0, c0, [], Ad, rfl, rfl, hok0, hac0, by omega, rfl⟩ ?_
 rintro m e S ⟨s2, s4, s5, s6, i, c, T, s8, rfl, hgr, hok, hac, hi, rfl⟩
 rw [Ei s4];rw [hgr];have hcl := hok.len;have hck := hok.klen;by_cases hlt : i ≤ l.length
 ·have hlt' : (i : Int) ≤ (l.length : Int) := by omega
  have w1 := Bx (k := i) (by omega)
  have hm1 : l.length + 1 - i = (l.length - i) + 1 := by omega
  have kc := ZdV ps l c (by omega) (by omega)
  have kd := ZdW L c (i + 1) (by omega) hrL hok (by omega) (hok.key hac)
  have hszD := DV (Cd L c);have hT1 : ∀ y : SObj, (T ++ [y])[T.length]? = some y := fun y => by simp
  have hT2 : ∀ y z : SObj, (T ++ [y]).set T.length z = T ++ [z] := fun y z => by simp
  by_cases hD : (Cd L c).length = 1
  ·obtain ⟨d, hd⟩ := R5 hD
   have hdm : d ∈ Cd L c := by rw [hd]; simp
   obtain ⟨hd1, hd2⟩ := TU (U7 hdm).2;have q1 : (((Cd L c).length : Int) != 1) = false := B7 (by omega)
   have hgd : (Cd L c)[0]? = some d := by rw [hd]; rfl
   have hD0 : (0 : Int) < ((Cd L c).length : Int) := by omega
   have ka := U6 c d (by omega) (by omega) hd1
   have hok' := NA hok hd1 hd2;have hac' : (CR c d).acts ≠ [] := by simp [CR]
   have hg1 : C3 (l.length + 1 - i) L c = C3 (l.length + 1 - (i + 1)) L (CR c d) := by
    rw [hm1, ZbP hd];congr 1
    omega
   rw [hg1] at hgr ⊢;generalize CR c d = c' at *;generalize Cd L c = D at *;refine Aa (A6 @s2 @s4 @s5 @s6 @s8 @hlt') ?_;refine cp kc ?_;refine Aa (A7 @s2 @s4 @s5 @s6 @s8 @hT1 @hT2) ?_;refine cp kd ?_;refine Aa (A9 @s2 @s4 @s5 @s6 @s8 @q1 @hgd @hszD @hD0) ?_;refine cp ka ?_;refine Aa (A6 @s2 @s4 @s5 @s6 @s8 @w1) ?_;exact Ao (l.length + 1 - (i + 1)) (by omega) ⟨Ad, Ad, Ad, Ad, i + 1, c', _, Ad, rfl, rfl, hok', hac', by omega, rfl⟩
  ·have q1 : (((Cd L c).length : Int) != 1) = true := B6 (by omega)
   have q2 : decide (((Cd L c).length : Int) > 1) = decide (1 < (Cd L c).length) := by rw [decide_eq_decide]; omega
   have hg1 : C3 (l.length + 1 - i) L c = { c with fork := decide (1 < (Cd L c).length) } := by
    rw [hm1, ZbQ hD]
   rw [hg1];generalize Cd L c = D at *;refine Aa (A6 @s2 @s4 @s5 @s6 @s8 @hlt') ?_;refine cp kc ?_;refine Aa (A7 @s2 @s4 @s5 @s6 @s8 @hT1 @hT2) ?_;refine cp kd ?_;refine Aa (A7 @s2 @s4 @s5 @s6 @s8 @q1 @q2) ?_;exact Ab
 ·obtain rfl : i = l.length + 1 := by omega
  have hlt' : ¬ ((l.length + 1 : Nat) : Int) ≤ (l.length : Int) := by omega
  have hg1 : C3 (l.length + 1 - (l.length + 1)) L c = c := by rw [Nat.sub_self]; rfl
  rw [hg1];refine Aa (A6 @s2 @s4 @s5 @s6 @s8 @hlt') ?_;exact Ab
end Pe
end
section
namespace Pe
open _root_.Go.Proofs.Tryz
open Go Go.RowKit Co Sg Ac It Sl Tp
set_option maxRecDepth 100000
set_option maxHeartbeats 4000000
theorem TG (l acc : List By) : (l.foldl EK acc).length ≤ acc.length + l.length := by
 induction l generalizing acc with
 | nil => exact Nat.le_refl _
 | cons x l ih =>
  have h1 := ih (EK acc x);have h2 := Zbu acc x;rw [List.foldl_cons, List.length_cons];omega
theorem OS (c : Chn) (n : Nat) (hcl : c.acts.length ≤ 400) (hn : n ≤ 500) (hr : Bt c.acts) : AC prog 130 [BH c, .it .i64 (n : Int), .it .i64 1, .st [], .sl .ro []] [] (At (BM c n)) [] := by
 have kt := XP c n (by omega) hn hr
 have htk : TOk (Fk c n) 400 := (L0 c.acts (min n c.acts.length)).le (by omega)
 unfold BM;generalize Fk c n = t at *;obtain ⟨tf, A, B, tm⟩ := t;have hA := htk.a;have hB := htk.b;simp only at hA hB ⊢
 have hszA := DY A;have kh := fun x => Tl B x (by omega)
 have ki := fun (m : List By) x (h : m.length ≤ 1000) => Zbs m x h
 refine Ai [214, 216, 217, 215] [] func130 ?_;refine run ?_;refine cp kt ?_;refine run ?_;refine AF (fun m e S => e 5 = .ptr 0 0 ∧ e 11 = .ptr 1 0 ∧ e 12 = At A ∧ S = [.cells [.st c.id, BO c.acts, .sl .ro (c.keys.map Bd), .st c.prev, .it .i64 c.gen, .bo c.fork], .cells [At tf, At A, At B, At tm]] ∧ ∃ (k : Nat) (acc : List By) (md : Mode), e 14 = .it .i64 (k : Int) ∧ e 13 = .sl md (acc.map .st) ∧ acc = ((A.take k).filter (fun x => !(x == c.id) && !(B.contains x))).foldl EK [] ∧ k ≤ A.length ∧ m = A.length - k) A.length ⟨Ad, Ad, Ad, rfl, 0, [], .full, Ad, Ad, by simp, by omega, rfl⟩ ?_
 rintro m e S ⟨s5, s11, s12, rfl, k, acc, md, s14, s13, hacc, hk, rfl⟩
 have hal : acc.length ≤ k := by
  have h1 := TG ((A.take k).filter (fun x => !(x == c.id) && !(B.contains x))) []
  have h2 := List.length_filter_le (fun x : By => !(x == c.id) && !(B.contains x)) (A.take k)
  rw [← hacc] at h1;rw [List.length_take] at h2;simp only [List.length_nil] at h1;omega
 by_cases hlt : k < A.length
 ·have hg : A[k]? = some A[k] := List.getElem?_eq_getElem hlt
  have hst := M9 (fun x : By => !(x == c.id) && !(B.contains x)) A k hlt
  have hlt' : (k : Int) < (A.length : Int) := by omega
  have w1 := Bx (k := k) (by omega)
  generalize A[k] = x at *;have kh := kh x;by_cases hx : x = c.id
  ·have q : (x == c.id) = true := beq_iff_eq.2 hx
   rw [q] at hst;simp only [Bool.not_true, Bool.false_and, Bool.false_eq_true, if_false, List.append_nil] at hst;refine Aa (B1 @s5 @s11 @s12 @s14 @s13 @hlt' @hg @hszA @q @w1) ?_;exact Ao (A.length - (k + 1)) (by omega) ⟨Ad, Ad, Ad, rfl, k + 1, acc, md, Ad, Ad, by rw [hst]; exact hacc, by omega, rfl⟩
  ·have q : (x == c.id) = false := beq_eq_false_iff_ne.2 hx
   rw [q] at hst;cases hb : B.contains x with
   | true =>
    rw [hb] at kh hst;rw [if_neg (by decide), List.append_nil] at hst
    refine Aa (B1 @s5 @s11 @s12 @s14 @s13 @hlt' @hg @hszA @q @w1) ?_;refine cp kh ?_;refine Aa (A6 @s5 @s11 @s12 @s14 @s13 @w1) ?_;exact Ao (A.length - (k + 1)) (by omega) ⟨Ad, Ad, Ad, rfl, k + 1, acc, md, Ad, Ad, by rw [hst]; exact hacc, by omega, rfl⟩
   | false =>
    rw [hb] at kh hst;rw [show (!false && !false) = true from rfl, if_pos rfl] at hst
    have ki := ki acc x (by omega)
    have hnx : EK acc x = ((A.take (k + 1)).filter (fun x => !(x == c.id) && !(B.contains x))).foldl EK [] := by
     rw [hst, List.foldl_append, ← hacc];rfl
    generalize EK acc x = acc' at *;refine Aa (B1 @s5 @s11 @s12 @s14 @s13 @hlt' @hg @hszA @q @w1) ?_;refine cp kh ?_;refine Aa (A8 @s5 @s11 @s12 @s14 @s13 @hg @hszA @hlt') ?_;refine cp ki ?_;refine Aa (A6 @s5 @s11 @s12 @s14 @s13 @w1) ?_;exact Ao (A.length - (k + 1)) (by omega) ⟨Ad, Ad, Ad, rfl, k + 1, acc', .ro, Ad, Ad, hnx, by omega, rfl⟩
 ·obtain rfl : k = A.length := by omega
  rw [List.take_length] at hacc;rw [← hacc];have hlt' : ¬ (A.length : Int) < (A.length : Int) := by omega
  refine Aa (A6 @s5 @s11 @s12 @s14 @s13 @hlt') ?_;exact Am
theorem OR (c : Chn) (n : Nat) : (BM c n).length ≤ c.acts.length := by
 unfold BM;have h1 := TG ((Fk c n).accepts.filter fun x => !(x == c.id) && !((Fk c n).blocks.contains x)) []
 have h2 := List.length_filter_le (fun x : By => !(x == c.id) && !((Fk c n).blocks.contains x)) (Fk c n).accepts
 have h3 := (L0 c.acts (min n c.acts.length)).a;simp only [List.length_nil] at h1;change (Fk c n).accepts.length ≤ _ at h3;omega
theorem Tu (acts : List Ac.Act) (i : Nat) : CB acts (i + 1) = if (acts.getD i Au).kind = 16 ∧ (acts.getD i Au).scope = 1 ∧ (acts.getD i Au).group = [] ∧ (acts.getD i Au).epoch = (CB acts i).2 then (i, (CB acts i).2 + 1) else CB acts i := rfl
theorem M0 (acts : List Ac.Act) : ∀ n, (0 ≤ (CB acts n).2 ∧ (CB acts n).2 ≤ n) ∧ (CB acts n).1 ≤ n ∧ (0 < (CB acts n).2 → (CB acts n).1 < n)
 | 0 => ⟨⟨Int.le_refl _, Int.le_refl _⟩, Nat.le_refl _, fun h => absurd h (Int.lt_irrefl _)⟩
 | n + 1 => by
  have ih := M0 acts n;rw [Tu];split
  ·exact ⟨⟨by show 0 ≤ (CB acts n).2 + 1; omega, by show (CB acts n).2 + 1 ≤ _; omega⟩, by show n ≤ _; omega, fun _ => Nat.lt_succ_self n⟩
  ·exact ⟨by omega, by omega, fun h => by have := ih.2.2 h; omega⟩
theorem Tv (c : Chn) (n : Nat) (hcl : c.acts.length ≤ 500) (hn : n ≤ 500) : AC prog 297 [BH c, .it .i64 (n : Int), .it .i64 1, .st []] [] (.tup [.it .i64 ((DQ c n).1 : Nat), .bo (DQ c n).2]) [] := by
 have hsz := DV c.acts;have hin := M0 c.acts;have hsu := Tu c.acts;show AC _ _ _ _ (.tup [.it .i64 (((CB c.acts (min n c.acts.length)).1 : Nat) : Int), .bo (decide (0 < (CB c.acts (min n c.acts.length)).2))]) _
 refine Ai [] [] func297 ?_;refine run ?_;refine AF (fun m e S => e 1 = .it .i64 (n : Int) ∧ e 2 = .it .i64 1 ∧ e 3 = .st [] ∧ e 4 = .ptr 0 0 ∧ ∃ (i : Nat) (T : Ae), e 12 = .it .i64 (i : Int) ∧ e 10 = .it .i64 ((CB c.acts i).1 : Nat) ∧ e 11 = .it .i64 (CB c.acts i).2 ∧ S = .cells [.st c.id, BO c.acts, .sl .ro (c.keys.map Bd), .st c.prev, .it .i64 c.gen, .bo c.fork] :: T ∧ i ≤ min n c.acts.length ∧ m = min n c.acts.length - i) (min n c.acts.length) ⟨Ad, Ad, Ad, Ad, 0, [], Ad, Ad, Ad, rfl, by omega, rfl⟩ ?_
 rintro m e S ⟨s1, s2, s3, s4, i, T, s12, s10, s11, rfl, hi, rfl⟩
 have hT1 : ∀ y : SObj, (T ++ [y])[T.length]? = some y := fun y => by simp
 have hT2 : ∀ y z : SObj, (T ++ [y]).set T.length z = T ++ [z] := fun y z => by simp
 have hr := hin i;by_cases hlt : i < min n c.acts.length
 ·have h1 : (i : Int) < (n : Int) := by omega
  have h2 : (i : Int) < (c.acts.length : Int) := by omega
  have w1 := Bx (k := i) (by omega)
  have hg : c.acts[i]? = some (c.acts.getD i Au) := by rw [List.getD_eq_getElem?_getD, List.getElem?_eq_getElem (by omega)]; rfl
  have hs := hsu i;generalize c.acts.getD i Au = a at *;generalize CB c.acts i = r at *;obtain ⟨r1, r2⟩ := r;simp only at hs hr s10 s11
  by_cases c1 : a.kind = 16
  rotate_left
  ·have q1 : (a.kind == 16) = false := beq_eq_false_iff_ne.2 c1
   rw [if_neg (fun h => c1 h.1)] at hs
   refine Aa (an @s1 (an @s2 (an @s3 (an @s4 (Aw @s12 @s10 @s11 @h1 @h2 @hg @hsz @hT1 @hT2 @q1 @w1))))) ?_;exact Ao (min n c.acts.length - (i + 1)) (by omega) ⟨Ad, Ad, Ad, Ad, i + 1, _, Ad, by rw [hs]; exact Ad, by rw [hs]; exact Ad, rfl, by omega, rfl⟩
  have q1 : (a.kind == 16) = true := beq_iff_eq.2 c1;by_cases c2 : a.scope = 1
  rotate_left
  ·have q2 : (a.scope == 1) = false := beq_eq_false_iff_ne.2 c2
   rw [if_neg (fun h => c2 h.2.1)] at hs
   refine Aa (an @s1 (an @s2 (an @s3 (an @s4 (an @s12 (Aw @s10 @s11 @h1 @h2 @hg @hsz @hT1 @hT2 @q1 @q2 @w1)))))) ?_;exact Ao (min n c.acts.length - (i + 1)) (by omega) ⟨Ad, Ad, Ad, Ad, i + 1, _, Ad, by rw [hs]; exact Ad, by rw [hs]; exact Ad, rfl, by omega, rfl⟩
  have q2 : (a.scope == 1) = true := beq_iff_eq.2 c2;by_cases c3 : a.group = []
  rotate_left
  ·have q3 : (a.group == []) = false := beq_eq_false_iff_ne.2 c3
   rw [if_neg (fun h => c3 h.2.2.1)] at hs
   refine Aa (an @s1 (an @s2 (an @s3 (an @s4 (an @s12 (an @s10 (Aw @s11 @h1 @h2 @hg @hsz @hT1 @hT2 @q1 @q2 @q3 @w1))))))) ?_;exact Ao (min n c.acts.length - (i + 1)) (by omega) ⟨Ad, Ad, Ad, Ad, i + 1, _, Ad, by rw [hs]; exact Ad, by rw [hs]; exact Ad, rfl, by omega, rfl⟩
  have q3 : (a.group == []) = true := beq_iff_eq.2 c3;by_cases c4 : a.epoch = r2
  rotate_left
  ·have q4 : (a.epoch == r2) = false := beq_eq_false_iff_ne.2 c4
   rw [if_neg (fun h => c4 h.2.2.2)] at hs
   refine Aa (an @s1 (an @s2 (an @s3 (an @s4 (an @s12 (an @s10 (an @s11 (Aw @h1 @h2 @hg @hsz @hT1 @hT2 @q1 @q2 @q3 @q4 @w1)))))))) ?_;exact Ao (min n c.acts.length - (i + 1)) (by omega) ⟨Ad, Ad, Ad, Ad, i + 1, _, Ad, by rw [hs]; exact Ad, by rw [hs]; exact Ad, rfl, by omega, rfl⟩
  have q4 : (a.epoch == r2) = true := beq_iff_eq.2 c4;have w2 : IntKind.i64.wrap (r2 + 1) = r2 + 1 := wrap64 (by omega) (by omega)
  rw [if_pos ⟨c1, c2, c3, c4⟩] at hs;refine Aa (an @s1 (an @s2 (an @s3 (an @s4 (an @s12 (an @s10 (an @s11 (an @h1 (Aw @h2 @hg @hsz @hT1 @hT2 @q1 @q2 @q3 @q4 @w1 @w2))))))))) ?_;exact Ao (min n c.acts.length - (i + 1)) (by omega) ⟨Ad, Ad, Ad, Ad, i + 1, _, Ad, by rw [hs]; exact Ad, by rw [hs]; exact Ad, rfl, by omega, rfl⟩
 ·obtain rfl : i = min n c.acts.length := by omega
  generalize CB c.acts (min n c.acts.length) = r at *;have hd : decide (r.2 > 0) = decide (0 < r.2) := rfl;by_cases hle : n ≤ c.acts.length
  ·have hmn : min n c.acts.length = n := by omega
   rw [hmn] at s12;have h1 : ¬ (n : Int) < (n : Int) := by omega
   refine Aa (A9 @s1 @s2 @s3 @s4 @s12 @s10 @s11 @h1 @hd) ?_;exact Ab
  ·have hmn : min n c.acts.length = c.acts.length := by omega
   rw [hmn] at s12;have h1 : (c.acts.length : Int) < (n : Int) := by omega
   have h2 : ¬ (c.acts.length : Int) < (c.acts.length : Int) := by omega
   refine Aa (B1 @s1 @s2 @s3 @s4 @s12 @s10 @s11 @h1 @h2 @hd) ?_;exact Ab
theorem PF (c : Chn) (n : Nat) (hcl : c.acts.length ≤ 500) (hn : n ≤ 500) : AC prog 211 [BH c, .it .i64 (n : Int), .it .i64 1, .st []] [] (.tup [.it .i64 (Bv c n).1, At (Bv c n).2.1, .bo (Bv c n).2.2]) [] := by
 have kg := Tv c n hcl hn;have hin := M0 c.acts (min n c.acts.length);have hlt : (DQ c n).2 = true → (DQ c n).1 < c.acts.length := fun h => by
  have h0 : 0 < (CB c.acts (min n c.acts.length)).2 := of_decide_eq_true h;have := hin.2.2 h0;show (CB c.acts (min n c.acts.length)).1 < _
  omega
 unfold Bv;generalize DQ c n = r at *;obtain ⟨i, b⟩ := r;have hsz := DV c.acts;simp only at hlt ⊢
 cases b with
 | false =>
  rw [if_neg (by decide)]
  show AC _ _ _ _ (.tup [.it .i64 0, .sl .ro [], .bo false]) _
  refine Ai [297] [] func211 ?_;refine run ?_;refine cp kg ?_;refine run ?_;exact Am
 | true =>
  rw [if_pos rfl];have hi := hlt rfl;have hg : c.acts[i]? = some (c.acts.getD i Au) := by rw [List.getD_eq_getElem?_getD, List.getElem?_eq_getElem (by omega)]; rfl
  have hi' : (i : Int) < (c.acts.length : Int) := by omega
  generalize c.acts.getD i Au = a at *;show AC _ _ _ _ (.tup [.it .i64 a.epoch, At a.to, .bo true]) _
  refine Ai [297] [] func211 ?_;refine run ?_;refine cp kg ?_;refine Aa (A3 @hg @hsz @hi') ?_;exact Ab
theorem Uh (c : Chn) (n : Nat) (hr : Bt c.acts) : 0 ≤ (Bv c n).1 ∧ (Bv c n).1 ≤ 1073741824 := by
 unfold Bv;split
 ·rename_i h
  show 0 ≤ (c.acts.getD (DQ c n).1 Au).epoch ∧ _
  by_cases hi : (DQ c n).1 < c.acts.length
  ·rw [List.getD_eq_getElem?_getD, List.getElem?_eq_getElem hi]
   exact (C0 (hr _ (List.getElem_mem hi))).epoch
  ·rw [List.getD_eq_getElem?_getD, List.getElem?_eq_none (by omega)]
   exact ⟨by decide, by decide⟩
 ·exact ⟨Int.le_refl _, by decide⟩
theorem YN (a b : List By) (ha : a.length ≤ 1000000) (hb : b.length ≤ 1000000) : AC prog 327 [At a, At b] [] (.bo (decide (a = b))) [] := by
 have hsa := DY a;have hsb := DY b;obtain ⟨q, hq⟩ : ∃ q, decide (a = b) = q := ⟨_, rfl⟩
 rw [hq];refine Ai [] [] func327 ?_;by_cases hl : a.length = b.length
 rotate_left
 ·obtain rfl : q = false := by rw [← hq]; exact decide_eq_false (fun e => hl (by rw [e]))
  have n1 : ((a.length : Int) != (b.length : Int)) = true := B6 (by omega)
  refine Aa @n1 ?_;exact Ab
 have n1 : ((a.length : Int) != (b.length : Int)) = false := B7 (by omega)
 refine Aa @n1 ?_;refine AF (fun m e S => e 0 = At a ∧ e 1 = At b ∧ S = [] ∧ ∃ k : Nat, e 5 = .it .i64 (k : Int) ∧ (∀ j (h1 : j < a.length) (h2 : j < b.length), j < k → a[j] = b[j]) ∧ k ≤ a.length ∧ m = a.length - k) a.length ⟨Ad, Ad, rfl, 0, Ad, fun j _ _ h => absurd h (Nat.not_lt_zero _), by omega, rfl⟩ ?_
 rintro m e S ⟨s0, s1, rfl, k, s5, hall, hk, rfl⟩
 by_cases hlt : k < a.length
 ·have hga : a[k]? = some a[k] := List.getElem?_eq_getElem hlt
  have hgb : b[k]? = some (b[k]'(by omega)) := List.getElem?_eq_getElem (by omega)
  have hlt' : (k : Int) < (a.length : Int) := by omega
  have hltb : (k : Int) < (b.length : Int) := by omega
  have w1 := Bx (k := k) (by omega)
  have hkb : k < b.length := by omega
  by_cases he : a[k] = b[k]
  ·have qe : (a[k] == b[k]) = true := by rw [he]; exact beq_self_eq_true _
   refine Aa (Aw @s0 @s1 @s5 @hga @hgb @hsa @hsb @hlt' @hltb @qe @w1) ?_;exact Ao (a.length - (k + 1)) (by omega) ⟨Ad, Ad, rfl, k + 1, Ad, (fun j h1 h2 hj => by
    by_cases ej : j = k
    ·subst ej; exact he
    ·exact hall j h1 h2 (by omega)), by omega, rfl⟩
  ·have qe : (a[k] == b[k]) = false := beq_eq_false_iff_ne.2 he
   obtain rfl : q = false := by rw [← hq]; exact decide_eq_false (fun e => he (by subst e; rfl))
   refine Aa (B1 @s0 @s1 @s5 @hga @hgb @hsa @hsb @hlt' @hltb @qe) ?_;exact Ab
 ·obtain rfl : k = a.length := by omega
  obtain rfl : q = true := by rw [← hq]; exact decide_eq_true (List.ext_getElem hl fun j h1 h2 => hall j h1 h2 h1)
  have hlt' : ¬ (a.length : Int) < (a.length : Int) := by omega
  refine Aa (A4 @s0 @s1 @s5 @hlt') ?_;exact Ab
theorem Zb5 (c : Chn) (n : Nat) (hcl : c.acts.length ≤ 400) (hn : n ≤ 500) (hr : Bt c.acts) (hto : (Bv c n).2.1.length ≤ 1000000) : AC prog 298 [BH c, .it .i64 (n : Int), .it .i64 1, .st [], .sl .ro []] [] (.bo (M2 c n)) [] := by
 have ke := PF c n (by omega) hn
 have km := OS c n hcl hn hr;have hml := OR c n;have ks := YN (Bv c n).2.1 (BM c n) hto (by omega)
 unfold M2;generalize Bv c n = r at *;generalize BM c n = mb at *;obtain ⟨ee, l, b⟩ := r;simp only at ks hto ⊢
 generalize decide (l = mb) = sm at *;cases b with
 | false =>
  show AC _ _ _ _ (.bo true) _
  refine Ai [211, 130, 327] [] func298 ?_;refine run ?_;refine cp ke ?_;refine run ?_;exact Ab
 | true =>
  show AC _ _ _ _ (.bo (!sm)) _
  refine Ai [211, 130, 327] [] func298 ?_;refine run ?_;refine cp ke ?_;refine run ?_;refine cp km ?_;refine run ?_;refine cp ks ?_;refine run ?_;exact Ab
end Pe
end
section
namespace Pe
open _root_.Go.Proofs.Tryz
open Go Go.RowKit Co Sg Ac It Sl Tp
set_option maxRecDepth 100000
set_option maxHeartbeats 4000000
theorem Rc (k : Key) (e : Int) : (DK k e).length = 32 := rfl
theorem Re (k : Key) (e : Int) (hk : -9223372036854775808 ≤ k.secret ∧ k.secret ≤ 9223372036854775807) (he : -9223372036854775808 ≤ e ∧ e ≤ 9223372036854775807) : AC prog 212 [Ea k, .it .i64 1, .st [], .it .i64 e] [] (.st (DK k e)) [] := by
 have k1 := Bq [101, 112, 111, 99, 104] (by simp)
 have k2 := AL k.secret (by omega)
 have k3 := AL 1 (by omega)
 have k4 := Bq [] (by simp)
 have k5 := AL e (by omega)
 have l1 := Gc [101, 112, 111, 99, 104] (by simp)
 have l2 := Aj k.secret (by omega)
 have l3 := Aj 1 (by omega)
 have l4 := Gc [] (by simp)
 have l5 := Aj e (by omega)
 simp only [List.length_cons, List.length_nil] at l1 l4;have k6 := FN (text [101, 112, 111, 99, 104] ++ Ag k.secret ++ Ag 1 ++ text [] ++ Ag e) (by simp only [List.length_append]; omega)
 change AC _ _ _ _ (.st (DK k e)) _ at k6;generalize DK k e = z at *;generalize text [101, 112, 111, 99, 104] = x1 at *;generalize Ag k.secret = x2 at *;generalize Ag 1 = x3 at *;generalize text [] = x4 at *;generalize Ag e = x5 at *;refine Ai [77, 80, 118] [] func212 ?_;refine run ?_;refine cp k1 ?_;refine run ?_;refine cp k2 ?_;refine run ?_;refine cp k3 ?_;refine run ?_;refine cp k4 ?_;refine run ?_;refine cp k5 ?_;refine run ?_;refine cp k6 ?_;refine run ?_;exact Ab
theorem VF (k : Key) (c : Chn) (hk : -9223372036854775808 ≤ k.secret ∧ k.secret ≤ 9223372036854775807) (hcl : c.acts.length ≤ 500) (hck : c.keys.length ≤ 500) : AC prog 209 [Ea k, BH c] [] (.bo (Hj k c)) [] := by
 have k1 := U2 c c.acts.length (by omega) (by omega) (by omega)
 have k2 := Mq k hk;unfold Hj;generalize GY c c.acts.length = r at *;obtain ⟨at', b⟩ := r;simp only
 have hq : (at'.pub == k.pub) = decide (at'.pub = k.pub) := rfl;cases b with
 | false =>
  show AC _ _ _ _ (.bo false) _
  refine Ai [296, 33] [] func209 ?_;refine run ?_;refine cp k1 ?_;refine run ?_;exact Ab
 | true =>
  cases hr : k.right with
  | false =>
   rw [hr] at k2;show AC _ _ _ _ (.bo false) _
   refine Ai [296, 33] [] func209 ?_;refine run ?_;refine cp k1 ?_;refine run ?_;refine cp k2 ?_;refine run ?_;exact Ab
  | true =>
   rw [hr] at k2;show AC _ _ _ _ (.bo (decide (at'.pub = k.pub))) _
   refine Ai [296, 33] [] func209 ?_;refine run ?_;refine cp k1 ?_;refine run ?_;refine cp k2 ?_;refine Aa @hq ?_;exact Ab
theorem ZcF (c : Chn) (n : Nat) (hr : Bt c.acts) : (Bv c n).2.1.length ≤ 64 := by
 unfold Bv;split
 ·show (c.acts.getD (DQ c n).1 Au).to.length ≤ 64
  by_cases hi : (DQ c n).1 < c.acts.length
  ·rw [List.getD_eq_getElem?_getD, List.getElem?_eq_getElem hi]
   exact (C0 (hr _ (List.getElem_mem hi))).to.1
  ·rw [List.getD_eq_getElem?_getD, List.getElem?_eq_none (by omega)]
   exact Nat.zero_le _
 ·exact Nat.zero_le _
theorem ZbU (c : Chn) (n : Nat) : (DQ c n).1 ≤ n := by
 have := (M0 c.acts (min n c.acts.length)).2.1;show (CB c.acts (min n c.acts.length)).1 ≤ n
 omega
theorem X9 (k : Key) (c : Chn) (hcl : c.acts.length ≤ 400) (hck : c.keys.length ≤ 500) (hr : Bt c.acts) : AC prog 210 [Ea k, BH c, .it .i64 1, .st [], .sl .ro []] [] (.bo (Ky k c)) [] := by
 have kg := Tv c c.acts.length (by omega) (by omega)
 have hgl := ZbU c c.acts.length;have kk := U2 c (DQ c c.acts.length).1 (by omega) (by omega) (by omega)
 have hto := ZcF c c.acts.length hr;have kf := Zb5 c c.acts.length hcl (by omega) hr (by omega)
 unfold Ky;generalize DQ c c.acts.length = g at *;obtain ⟨gi, gb⟩ := g;simp only at kk ⊢
 generalize GY c gi = r at *;obtain ⟨at', b⟩ := r;generalize M2 c c.acts.length = f at *;simp only
 have hq : (at'.pub != k.pub) = !(decide (at'.pub = k.pub)) := rfl;cases f with
 | true =>
  show AC _ _ _ _ (.bo true) _
  refine Ai [297, 296, 298] [] func210 ?_;refine run ?_;refine cp kg ?_;refine run ?_;refine cp kk ?_;refine run ?_;refine cp kf ?_;refine run ?_;exact Ab
 | false =>
  show AC _ _ _ _ (.bo (!(decide (at'.pub = k.pub)))) _
  refine Ai [297, 296, 298] [] func210 ?_;refine run ?_;refine cp kg ?_;refine run ?_;refine cp kk ?_;refine run ?_;refine cp kf ?_;refine Aa @hq ?_;exact Ab
theorem Mz : AC prog 207 [.it .i64 1] [] (.bo true) [] := by
 refine Ai [] [] func207 ?_;refine run ?_;exact Ab
theorem KC : AC prog 208 [.it .i64 1] [] (.bo true) [] := by
 refine Ai [] [] func208 ?_;refine run ?_;exact Ab
def Oz (s : By) (c : Chn) (txt : By) : By := text Tp.wPost ++ text s ++ Ag (c.acts.length : Int) ++ text c.prev ++ text txt
def GS (k : Key) (c : Chn) (time : Int) (txt : By) : Ac.Act := { CF c 1 time with scope := 1, epoch := (Bv c c.acts.length).1, body := GQ (DK k (Bv c c.acts.length).1) (Sm.sha (Oz (DK k (Bv c c.acts.length).1) c txt)) txt }
theorem OA (k : Key) (c : Chn) (time : Int) (txt : By) : Gj k c time txt = if Hj k c = false then (Au, 10) else if Ky k c = true then (Au, 11) else if Ac.right (GS k c time txt) = false then (Au, 1) else if Cc c (GS k c time txt) = false then (Au, 4) else (BI k (GS k c time txt), 0) := rfl
theorem Z4 (k : Key) (c : Chn) (time : Int) (txt : By) (hk : k.right = true) (hcl : c.acts.length ≤ 300) (hck : c.keys.length ≤ 300) (hr : Bt c.acts) (hid : c.id.length ≤ 1000) (hpv : c.prev.length ≤ 1000) (htx : txt.length ≤ 1000) :
  AC prog 129 [Ea k, BH c, As { CF c 1 time with scope := 1 }, .st txt] [] (.tup [As (Gj k c time txt).1, .it .i64 (Gj k c time txt).2]) [] := by
 have hkr := Key.right_iff.1 hk;have ka := VF k c (by omega) (by omega) (by omega)
 have kst := X9 k c (by omega) (by omega) hr
 have kd := PT c 1 time (by omega)
 have ke := PF c c.acts.length (by omega) (by omega)
 have hein := Uh c c.acts.length hr;have hsd : Sz (GS k c time txt) := ⟨by show c.id.length ≤ _; omega, by show (0 : Nat) ≤ _; omega, by show (0 : Nat) ≤ _; omega, by show (0 : Nat) ≤ _; omega, (fun s hs => nomatch hs), by show (0 : Nat) ≤ _; omega, by show (0 : Nat) ≤ _; omega⟩
 have kr := G2 (GS k c time txt) hsd;have kf := PS c (GS k c time txt) (by omega) hr hsd
 have ks := Lm k (GS k c time txt) hsd (by show (0 : Nat) ≤ _; omega) (by show (0 : Nat) ≤ _; omega) (by omega)
 obtain ⟨q, hq⟩ : ∃ q, Gj k c time txt = q := ⟨_, rfl⟩
 rw [hq];rw [OA] at hq;generalize hD : GS k c time txt = d at *;have hDe : d = { CF c 1 time with scope := 1, epoch := (Bv c c.acts.length).1, body := GQ (DK k (Bv c c.acts.length).1) (Sm.sha (Oz (DK k (Bv c c.acts.length).1) c txt)) txt } := hD.symm
 cases hau : Hj k c with
 | false =>
  obtain rfl : q = (Au, 10) := by rw [← hq, if_pos hau]
  rw [hau] at ka;refine Ai [207, 208, 209, 64, 210, 211, 212, 77, 80, 118, 213, 69, 72, 50] [] func129 ?_;refine run ?_;refine cp Mz ?_;refine run ?_;refine cp KC ?_;refine run ?_;refine cp ka ?_;refine run ?_;exact Am
 | true =>
 rw [hau] at ka;rw [if_neg (by rw [hau]; decide)] at hq
 cases hst : Ky k c with
 | true =>
  obtain rfl : q = (Au, 11) := by rw [← hq, if_pos hst]
  rw [hst] at kst;refine Ai [207, 208, 209, 64, 210, 211, 212, 77, 80, 118, 213, 69, 72, 50] [] func129 ?_;refine run ?_;refine cp Mz ?_;refine run ?_;refine cp KC ?_;refine run ?_;refine cp ka ?_;refine run ?_;refine cp kd ?_;refine run ?_;refine cp kst ?_;refine run ?_;exact Am
 | false =>
 rw [hst] at kst;rw [if_neg (by rw [hst]; decide)] at hq
 generalize Bv c c.acts.length = ep at *;obtain ⟨ee, eto, eb⟩ := ep;simp only at hein hDe
 have ksec := Re k ee (by omega) (by omega)
 have hsl := Rc k ee;generalize DK k ee = s at *;have t1 := Bq [112, 111, 115, 116] (by simp)
 have t2 := Bq s (by omega)
 have t3 := AL (c.acts.length : Int) (by omega)
 have t4 := Bq c.prev (by omega)
 have t5 := Bq txt (by omega)
 have l1 := Gc [112, 111, 115, 116] (by simp)
 have l2 := Gc s (by omega)
 have l3 := Aj (c.acts.length : Int) (by omega)
 have l4 := Gc c.prev (by omega)
 have l5 := Gc txt (by omega)
 simp only [List.length_cons, List.length_nil] at l1;have hX : Oz s c txt = text [112, 111, 115, 116] ++ text s ++ Ag (c.acts.length : Int) ++ text c.prev ++ text txt := rfl;rw [hX] at hDe;have t6 := FN (text [112, 111, 115, 116] ++ text s ++ Ag (c.acts.length : Int) ++ text c.prev ++ text txt) (by simp only [List.length_append]; omega)
 have hzl : (Sm.sha (text [112, 111, 115, 116] ++ text s ++ Ag (c.acts.length : Int) ++ text c.prev ++ text txt)).length = 32 := rfl;generalize text [112, 111, 115, 116] = x1 at *;generalize text s = x2 at *;generalize Ag (c.acts.length : Int) = x3 at *;generalize text c.prev = x4 at *;generalize text txt = x5 at *;generalize Sm.sha (x1 ++ x2 ++ x3 ++ x4 ++ x5) = z at *;have t7 := Rh s z txt (by omega) (by omega) (by omega)
 generalize GQ s z txt = bx at *;have eV : As d = .agg [.st c.id, .it .i64 (c.acts.length : Int), .st c.prev, .it .i64 1, .it .i64 time, .st [], .st [], .it .i64 1, .st [], .sl .ro [], .st [], .st bx.nonce, .st bx.data, .st bx.tag, .it .i64 ee, .sl .ro [], .it .i64 0, .it .i64 0, .it .i64 0, .it .i64 0] := by rw [hDe]; rfl
 rw [eV] at kr kf ks;clear hX hDe hD;cases hrt : Ac.right d with
 | false =>
  obtain rfl : q = (Au, 1) := by rw [← hq, if_pos hrt]
  rw [hrt] at kr;refine Ai [207, 208, 209, 64, 210, 211, 212, 77, 80, 118, 213, 69, 72, 50] [] func129 ?_;refine run ?_;refine cp Mz ?_;refine run ?_;refine cp KC ?_;refine run ?_;refine cp ka ?_;refine run ?_;refine cp kd ?_;refine run ?_;refine cp kst ?_;refine run ?_;refine cp ke ?_;refine run ?_;refine cp ksec ?_;refine run ?_;refine cp t1 ?_;refine run ?_;refine cp t2 ?_;refine run ?_;refine cp t3 ?_;refine run ?_;refine cp t4 ?_;refine run ?_;refine cp t5 ?_;refine run ?_;refine cp t6 ?_;refine run ?_;refine cp t7 ?_;refine run ?_;refine cp kr ?_;refine run ?_;exact Am
 | true =>
 rw [hrt] at kr;rw [if_neg (by rw [hrt]; decide)] at hq
 have hfq : (Cc c d = false ∧ q = (Au, 4)) ∨ (Cc c d = true ∧ q = (BI k d, 0)) := by
  cases hft : Cc c d with
  | false => exact .inl ⟨rfl, by rw [← hq, if_pos hft]⟩
  | true => exact .inr ⟨rfl, by rw [← hq, if_neg (by rw [hft]; decide)]⟩
 refine Ai [207, 208, 209, 64, 210, 211, 212, 77, 80, 118, 213, 69, 72, 50] [] func129 ?_;refine run ?_;refine cp Mz ?_;refine run ?_;refine cp KC ?_;refine run ?_;refine cp ka ?_;refine run ?_;refine cp kd ?_;refine run ?_;refine cp kst ?_;refine run ?_;refine cp ke ?_;refine run ?_;refine cp ksec ?_;refine run ?_;refine cp t1 ?_;refine run ?_;refine cp t2 ?_;refine run ?_;refine cp t3 ?_;refine run ?_;refine cp t4 ?_;refine run ?_;refine cp t5 ?_;refine run ?_;refine cp t6 ?_;refine run ?_;refine cp t7 ?_;refine run ?_;refine cp kr ?_;refine run ?_;refine cp kf ?_;rcases hfq with ⟨hft, rfl⟩ | ⟨hft, rfl⟩
 ·rw [hft]
  refine run ?_;exact Am
 ·rw [hft]
  generalize BI k d = sd at *;refine run ?_;refine cp ks ?_;refine run ?_;exact Ab
end Pe
end
section
namespace Pe
open _root_.Go.Proofs.Tryz
open Go Go.RowKit Co Sg Ac It Sl Tp
set_option maxRecDepth 100000
set_option maxHeartbeats 4000000
theorem Qt (s : By) : ∀ (ps : List Int) (b i : Nat), (ET s b ps)[i]? = (ps[i]?).map fun p => F9 p (text Tp.wGrant ++ text s ++ Ag ((b + i : Nat) : Int)) s
 | [], b, i => by simp [ET]
 | p :: ps, b, 0 => rfl
 | p :: ps, b, i + 1 => by
  rw [ET, List.getElem?_cons_succ, Qt s ps (b + 1) i, List.getElem?_cons_succ, show b + 1 + i = b + (i + 1) by omega]
theorem Qs (s : By) : ∀ (ps : List Int) (b : Nat), (ET s b ps).length = ps.length
 | [], _ => rfl
 | p :: ps, b => by rw [ET, List.length_cons, Qs s ps, List.length_cons]
theorem Xy {l : List By} {d x : By} (h : x ∈ Dj l d) : x ∈ l ∨ x = d := by
 unfold Dj at h;split at h
 ·exact .inl h
 ·rw [← MN, ← MO] at h
  rcases List.mem_append.1 h with h | h
  ·exact .inl (List.mem_of_mem_take h)
  ·rcases List.mem_cons.1 h with h | h
   ·exact .inr h
   ·exact .inl (List.mem_of_mem_drop h)
theorem Xv {l : List By} {d x : By} (h : x ∈ BU l d) : x ∈ l := (List.mem_filter.1 h).1
theorem Zbt {l : List By} {d x : By} (h : x ∈ EK l d) : x ∈ l ∨ x = d := by
 rw [O6] at h;split at h
 ·exact .inl h
 ·rcases List.mem_append.1 h with h | h
  ·exact .inl (List.mem_of_mem_take h)
  ·rcases List.mem_cons.1 h with h | h
   ·exact .inr h
   ·exact .inl (List.mem_of_mem_drop h)
theorem Zer {t : Ties} {acts : List Ac.Act} {i : Nat} {l : List By} {x : By} (h : x ∈ (GE t acts i l).accepts) : x ∈ t.accepts ∨ x = (acts.getD i Au).target := by
 unfold GE at h;simp only at h
 repeat' split at h
 all_goals first | exact .inl h | exact Xy h | exact .inl (Xv h)
theorem QM (acts : List Ac.Act) (hr : Bt acts) : ∀ n, ∀ x ∈ (EE acts n).accepts, x.length ≤ 16
 | 0, x, h => nomatch h
 | n + 1, x, h => by
  rcases Zer h with h | rfl
  ·exact QM acts hr n x h
  ·by_cases hi : n < acts.length
   ·rw [List.getD_eq_getElem?_getD, List.getElem?_eq_getElem hi]
    exact (C0 (hr _ (List.getElem_mem hi))).target
   ·rw [List.getD_eq_getElem?_getD, List.getElem?_eq_none (by omega)]
    exact Nat.zero_le _
theorem Zb9 (l acc : List By) (x : By) (h : x ∈ l.foldl EK acc) : x ∈ acc ∨ x ∈ l := by
 induction l generalizing acc with
 | nil => exact .inl h
 | cons y l ih =>
  rcases ih _ h with h | h
  ·rcases Zbt h with h | rfl
   ·exact .inl h
   ·exact .inr (by simp)
  ·exact .inr (List.mem_cons_of_mem _ h)
theorem ZaQ (c : Chn) (n : Nat) (hr : Bt c.acts) : ∀ x ∈ BM c n, x.length ≤ 16 := fun x hx => by
 unfold BM at hx;rcases Zb9 _ _ x hx with h | h
 ·cases h
 ·exact QM c.acts hr _ x (List.mem_filter.1 h).1
def EN (c : Chn) : Int := if (Bv c c.acts.length).2.2 = true then (Bv c c.acts.length).1 + 1 else (Bv c c.acts.length).1
def Gv (k : Key) (c : Chn) (ps : List Int) (time : Int) : Ac.Act := { CF c 16 time with scope := 1, to := BM c c.acts.length, epoch := EN c, wraps := ET (DK k (EN c)) 0 ps }
def IJ (ps : List Int) : Bool := ps.any (fun p => decide (p < 1) || decide (2305843009213693950 < p))
def IA (k : Key) (c : Chn) (ps : List Int) (time : Int) : Ac.Act × Int :=
 if IJ ps = true then (Au, 1) else if Hj k c = false then (Au, 10) else if Ac.right (Gv k c ps time) = false then (Au, 1) else (BI k (Gv k c ps time), 0)
theorem ZbT (k : Key) (c : Chn) (ps : List Int) (time : Int) (hl : (BM c c.acts.length).length ≤ 64) : (IA k c ps time).1 = Iy k c ps time := by
 unfold IA Iy IJ;simp only
 rw [if_neg (show ¬ 64 < (BM c c.acts.length).length by omega)]
 split
 ·rfl
 split
 ·rfl
 show _ = if Ac.right (Gv k c ps time) = false then Au else BI k (Gv k c ps time)
 split <;> rfl
theorem ZcU (c : Chn) (kind time : Int) (hl : c.acts.length ≤ 1000) : AC prog 64 [BH c, .it .i64 kind, .it .i64 time] [] (.agg [.st c.id, .it .i64 (c.acts.length : Int), .st c.prev, .it .i64 kind, .it .i64 time, .st [], .st [], .it .i64 0, .st [], .sl .full [], .st [], .st [], .st [], .st [], .it .i64 0, .sl .full [], .it .i64 0, .it .i64 0, .it .i64 0, .it .i64 0]) [] := by
 obtain ⟨id, acts, keys, prev, gen, fork⟩ := c;refine Ai [] [] func64 ?_;refine run ?_;exact Ab
theorem Zbr (l : List Int) : Ax 1 (l.map (AV.it .i64)) = true := Bh 1 (AV.it .i64) (fun _ => rfl) _
theorem Qq (l : List Wrap) : Ax 5 (l.map Ba) = true := Bh 5 Ba (fun _ => rfl) _
set_option maxHeartbeats 16000000
theorem ZbV (k : Key) (c : Chn) (ps : List Int) (time : Int) (hk : k.right = true) (hcl : c.acts.length ≤ 60) (hck : c.keys.length ≤ 300) (hr : Bt c.acts) (hid : c.id.length ≤ 1000) (hpl : ps.length = (BM c c.acts.length).length) :
  AC prog 132 [Ea k, BH c, .it .i64 1, .st [], .sl .ro [], Bn ps, .it .i64 time] [] (.tup [As (IA k c ps time).1, .it .i64 (IA k c ps time).2]) [] := by
 have hkr := Key.right_iff.1 hk;have km := OS c c.acts.length (by omega) (by omega) hr
 have hml := OR c c.acts.length;have ka := VF k c (by omega) (by omega) (by omega)
 have ke := PF c c.acts.length (by omega) (by omega)
 have hein := Uh c c.acts.length hr;have kd := ZcU c 16 time (by omega)
 have hsp := Zbr ps;have hgE : -9223372036854775808 ≤ EN c ∧ EN c ≤ 9223372036854775807 := by unfold EN; split <;> omega
 have hgEd : EN c = if (Bv c c.acts.length).2.2 = true then (Bv c c.acts.length).1 + 1 else (Bv c c.acts.length).1 := rfl
 have ksec := Re k (EN c) (by omega) hgE
 have hsl := Rc k (EN c);have hwl := Qs (DK k (EN c)) ps 0;have hwg := Qt (DK k (EN c)) ps 0;have hsd : Sz (Gv k c ps time) := ⟨by show c.id.length ≤ _; omega, by show (0 : Nat) ≤ _; omega, by show (0 : Nat) ≤ _; omega, by show (0 : Nat) ≤ _; omega, (fun x hx => by have := ZaQ c c.acts.length hr x hx; omega), by show (BM c c.acts.length).length ≤ _; omega, by show (ET _ 0 ps).length ≤ _; omega⟩
 have kr := G2 (Gv k c ps time) hsd;have ks := Lm k (Gv k c ps time) hsd (by show (BM c c.acts.length).length ≤ _; omega) (by show (ET _ 0 ps).length ≤ _; omega) (by omega)
 obtain ⟨q, hq⟩ : ∃ q, IA k c ps time = q := ⟨_, rfl⟩
 rw [hq];unfold IA at hq;have eV : As (Gv k c ps time) = .agg [.st c.id, .it .i64 (c.acts.length : Int), .st c.prev, .it .i64 16, .it .i64 time, .st [], .st [], .it .i64 1, .st [], At (BM c c.acts.length), .st [], .st [], .st [], .st [], .it .i64 (EN c), .sl .ro ((ET (DK k (EN c)) 0 ps).map Ba), .it .i64 0, .it .i64 0, .it .i64 0, .it .i64 0] := rfl;rw [eV] at kr ks;generalize Gv k c ps time = A at *;clear eV hsd;generalize BM c c.acts.length = L at *;generalize Bv c c.acts.length = ep at *;obtain ⟨ee, eto, eb⟩ := ep;simp only at hein hgEd
 generalize EN c = ge at *;generalize DK k ge = s at *;generalize ET s 0 ps = W at *;have nl : ((ps.length : Int) != (L.length : Int)) = false := B7 (by omega)
 have hL64 : ¬ (L.length : Int) > 64 := by omega
 have hbad : IJ ps = false → ∀ (j : Nat) (p : Int), ps[j]? = some p → ¬ p < 1 ∧ ¬ p > 2305843009213693950 := fun h j p hp => by
  unfold IJ at h;rw [List.any_eq_false] at h;have := h p (List.mem_of_getElem? hp);simp only [Bool.or_eq_true, decide_eq_true_eq, not_or] at this;exact ⟨this.1, by omega⟩
 have hgood : (∀ (j : Nat) (p : Int), ps[j]? = some p → ¬ p < 1 ∧ ¬ p > 2305843009213693950) → IJ ps = false := fun h => by
  unfold IJ;rw [List.any_eq_false];intro p hp;obtain ⟨j, hj⟩ := List.mem_iff_getElem?.1 hp;have := h j p hj;simp only [Bool.or_eq_true, decide_eq_true_eq, not_or];exact ⟨this.1, by omega⟩
 refine Ai [130, 208, 209, 211, 64, 212, 77, 80, 218, 69, 50] [] func132 ?_;refine run ?_;refine cp km ?_;refine run ?_;refine cp KC ?_;refine Aa @nl ?_;refine AF (fun m e S => e 2 = .it .i64 1 ∧ e 3 = .st [] ∧ e 5 = Bn ps ∧ e 6 = .it .i64 time ∧ e 7 = .ptr 0 0 ∧ e 8 = .ptr 1 0 ∧ e 14 = .ptr 2 0 ∧ e 16 = .it .i64 (c.acts.length : Int) ∧ e 17 = At L ∧ S = [.cells [.it .i64 k.secret, .it .i64 k.pub], .cells [.st c.id, BO c.acts, .sl .ro (c.keys.map Bd), .st c.prev, .it .i64 c.gen, .bo c.fork], .cells IZ] ∧ ∃ i : Nat, e 18 = .it .i64 (i : Int) ∧ (∀ (j : Nat) (p : Int), j < i → ps[j]? = some p → ¬ p < 1 ∧ ¬ p > 2305843009213693950) ∧ i ≤ ps.length ∧ m = ps.length - i) ps.length ⟨Ad, Ad, Ad, Ad, Ad, Ad, Ad, Ad, Ad, rfl, 0, Ad, fun j p h => absurd h (Nat.not_lt_zero _), by omega, rfl⟩ ?_
 rintro m e S ⟨s2, s3, s5, s6, s7, s8, s14, s16, s17, rfl, i, s18, hall, hi, rfl⟩
 rw [Ei s14];by_cases hlt : i < ps.length
 ·have hg : ps[i]? = some ps[i] := List.getElem?_eq_getElem hlt
  have hlt' : (i : Int) < (ps.length : Int) := by omega
  have w1 := Bx (k := i) (by omega)
  generalize ps[i] = p at *;have hbt : (p < 1 ∨ p > 2305843009213693950) → q = (Au, 1) := fun h => by
   cases hb : IJ ps with
   | true => rw [← hq, if_pos hb]
   | false => have := hbad hb i p hg; omega
  by_cases c1 : p < 1
  ·obtain rfl := hbt (.inl c1)
   refine Aa (an @s2 (an @s3 (an @s5 (Aw @s6 @s7 @s8 @s14 @s16 @s17 @s18 @hlt' @hg @hsp @c1)))) ?_;exact Am
  by_cases c2 : p > 2305843009213693950
  ·obtain rfl := hbt (.inr c2)
   refine Aa (an @s2 (an @s3 (an @s5 (an @s6 (Aw @s7 @s8 @s14 @s16 @s17 @s18 @hlt' @hg @hsp @c1 @c2))))) ?_;exact Am
  refine Aa (an @s2 (an @s3 (an @s5 (an @s6 (an @s7 (Aw @s8 @s14 @s16 @s17 @s18 @hlt' @hg @hsp @c1 @c2 @w1)))))) ?_;exact Ao (ps.length - (i + 1)) (by omega) ⟨Ad, Ad, Ad, Ad, Ad, Ad, Ad, Ad, Ad, rfl, i + 1, Ad, (fun j p' hj hp => by
   by_cases ej : j = i
   ·subst ej; rw [hg] at hp; cases hp; exact ⟨c1, c2⟩
   ·exact hall j p' (by omega) hp), by omega, rfl⟩
 have hie : i = ps.length := by omega
 subst hie;have hall' : ∀ (j : Nat) (p : Int), ps[j]? = some p → ¬ p < 1 ∧ ¬ p > 2305843009213693950 := fun j p hp => hall j p (List.getElem?_eq_some_iff.1 hp).1 hp
 have hbf := hgood hall';rw [if_neg (by rw [hbf]; decide)] at hq
 have hlt' : ¬ (ps.length : Int) < (ps.length : Int) := by omega
 refine Aa (an @s2 (Aw @s3 @s5 @s6 @s7 @s8 @s14 @s16 @s17 @s18 @hlt' @hL64)) ?_;refine cp ka ?_;cases hau : Hj k c with
 | false =>
  obtain rfl : q = (Au, 10) := by rw [← hq, if_pos hau]
  refine Aa (A9 @s2 @s3 @s5 @s6 @s7 @s8 @s14 @s16 @s17) ?_;exact Am
 | true =>
 rw [if_neg (by rw [hau]; decide)] at hq
 refine Aa (A9 @s2 @s3 @s5 @s6 @s7 @s8 @s14 @s16 @s17) ?_;refine cp ke ?_;have w2 : IntKind.i64.wrap (ee + 1) = ee + 1 := wrap64 (by omega) (by omega)
 have hwd : W.length = L.length := by omega
 have t1 := Bq [103, 114, 97, 110, 116] (by simp)
 have t2 := Bq s (by omega)
 have l1 := Gc [103, 114, 97, 110, 116] (by simp)
 have l2 := Gc s (by omega)
 simp only [List.length_cons, List.length_nil] at l1;change ∀ i, W[i]? = (ps[i]?).map fun p => F9 p (text [103, 114, 97, 110, 116] ++ text s ++ Ag ((0 + i : Nat) : Int)) s at hwg
 simp only [Nat.zero_add] at hwg;generalize text [103, 114, 97, 110, 116] = x1 at *;generalize text s = x2 at *;have hrq : (Ac.right A = false ∧ q = (Au, 1)) ∨ (Ac.right A = true ∧ q = (BI k A, 0)) := by
  cases hrt : Ac.right A with
  | false => exact .inl ⟨rfl, by rw [← hq, if_pos hrt]⟩
  | true => exact .inr ⟨rfl, by rw [← hq, if_neg (by rw [hrt]; decide)]⟩
 clear hq hall hall' hgood hlt;have hallp := hbad hbf;cases eb with
 | true =>
  obtain rfl : ge = (ee + 1) := hgEd;refine Aa (B1 @s2 @s3 @s5 @s6 @s7 @s8 @s14 @s16 @s17 @w2) ?_;refine cp kd ?_;refine Aa (A9 @s2 @s3 @s5 @s6 @s7 @s8 @s14 @s16 @s17) ?_;refine cp ksec ?_;refine Aa (A9 @s2 @s3 @s5 @s6 @s7 @s8 @s14 @s16 @s17) ?_;refine C2 (fun m e S => e 5 = Bn ps ∧ e 7 = .ptr 0 0 ∧ e 14 = .ptr 2 0 ∧ e 17 = At L ∧ e 22 = .ptr 3 0 ∧ e 23 = .st s ∧ ∃ (i : Nat) (acc : List Wrap) (T : Ae), e 24 = .it .i64 (i : Int) ∧ S = .cells [.it .i64 k.secret, .it .i64 k.pub] :: .cells [.st c.id, BO c.acts, .sl .ro (c.keys.map Bd), .st c.prev, .it .i64 c.gen, .bo c.fork] :: .cells IZ :: .cells [.st c.id, .it .i64 (c.acts.length : Int), .st c.prev, .it .i64 16, .it .i64 time, .st [], .st [], .it .i64 1, .st [], At L, .st [], .st [], .st [], .st [], .it .i64 (ee + 1), .sl (.own 4) (acc.map Ba), .it .i64 0, .it .i64 0, .it .i64 0, .it .i64 0] :: .buf acc.length 117 5 :: T ∧ acc = W.take i ∧ i ≤ L.length ∧ m = L.length - i) L.length _ _ (Ay.reserveK 0 3 15 (by rfl) (by rfl) 117 5)
   ⟨Ad, Ad, Ad, Ad, Ad, Ad, 0, [], [], Ad, rfl, by simp, by omega, rfl⟩ ?_
  clear s2 s3 s5 s6 s7 s8 s14 s16 s17 s18;rintro m e S ⟨s5, s7, s14, s17, s22, s23, i, acc, T, s24, rfl, hacc, hi, rfl⟩
  rw [Ei s14];have hT1 : ∀ y : SObj, (T ++ [y])[T.length]? = some y := fun y => by simp
  have hT2 : ∀ y z : SObj, (T ++ [y]).set T.length z = T ++ [z] := fun y z => by simp
  have hal : acc.length = i := by rw [hacc, List.length_take]; omega
  have hsw := Qq acc;by_cases hlt : i < L.length
  ·have hg : ps[i]? = some (ps[i]'(by omega)) := List.getElem?_eq_getElem (by omega)
   have hwi := hwg i;rw [hg] at hwi;have hlt' : (i : Int) < (L.length : Int) := by omega
   have hltp : (i : Int) < (ps.length : Int) := by omega
   have w1 := Bx (k := i) (by omega)
   have hpo := hallp i _ hg;have t3 := AL (i : Int) (by omega)
   have l3 := Aj (i : Int) (by omega)
   generalize ps[i]'(by omega) = p at *
   have kw := Qy p (x1 ++ x2 ++ Ag (i : Int)) s (by omega) (by simp only [List.length_append]; omega) (by omega)
   change W[i]? = some (F9 p (x1 ++ x2 ++ Ag (i : Int)) s) at hwi;generalize Ag (i : Int) = x3 at *;generalize F9 p (x1 ++ x2 ++ x3) s = wv at *;have hst : acc ++ [wv] = W.take (i + 1) := by
    obtain ⟨h1, h2⟩ := List.getElem?_eq_some_iff.1 hwi
    rw [List.take_succ_eq_append_getElem h1, h2, hacc]
   refine Aa (Aw @s5 @s7 @s14 @s17 @s22 @s23 @s24 @hlt' @hltp @hg @hsp) ?_;refine cp t1 ?_;refine Aa (A7 @s5 @s7 @s14 @s17 @s22 @s23 @s24) ?_;refine cp t2 ?_;refine Aa (A7 @s5 @s7 @s14 @s17 @s22 @s23 @s24) ?_;refine cp t3 ?_;refine Aa (A7 @s5 @s7 @s14 @s17 @s22 @s23 @s24) ?_;refine cp kw ?_;refine Aa (Aw @s5 @s7 @s14 @s17 @s22 @s23 @s24 @hT1 @hT2 @hsw @w1) ?_;exact Ao (L.length - (i + 1)) (by omega) ⟨Ad, Ad, Ad, Ad, Ad, Ad, i + 1, acc ++ [wv], _, Ad, by rw [List.map_append, List.length_append]; rfl, hst, by omega, rfl⟩
  ·obtain rfl : i = L.length := by omega
   rw [List.take_of_length_le (by omega)] at hacc
   subst hacc;have hlt' : ¬ (L.length : Int) < (L.length : Int) := by omega
   refine Aa (A8 @s5 @s7 @s14 @s17 @s22 @s23 @s24 @hlt') ?_;refine cp kr ?_;rcases hrq with ⟨hrt, rfl⟩ | ⟨hrt, rfl⟩
   ·rw [hrt]
    refine Aa (A7 @s5 @s7 @s14 @s17 @s22 @s23 @s24) ?_;exact Am
   ·rw [hrt]
    generalize BI k A = sd at *;refine Aa (A7 @s5 @s7 @s14 @s17 @s22 @s23 @s24) ?_;refine cp ks ?_;refine run ?_;exact Am
 | false =>
  obtain rfl : ge = ee := hgEd;refine Aa (B1 @s2 @s3 @s5 @s6 @s7 @s8 @s14 @s16 @s17 @w2) ?_;refine cp kd ?_;refine Aa (A9 @s2 @s3 @s5 @s6 @s7 @s8 @s14 @s16 @s17) ?_;refine cp ksec ?_;refine Aa (A9 @s2 @s3 @s5 @s6 @s7 @s8 @s14 @s16 @s17) ?_;refine C2 (fun m e S => e 5 = Bn ps ∧ e 7 = .ptr 0 0 ∧ e 14 = .ptr 2 0 ∧ e 17 = At L ∧ e 22 = .ptr 3 0 ∧ e 23 = .st s ∧ ∃ (i : Nat) (acc : List Wrap) (T : Ae), e 24 = .it .i64 (i : Int) ∧ S = .cells [.it .i64 k.secret, .it .i64 k.pub] :: .cells [.st c.id, BO c.acts, .sl .ro (c.keys.map Bd), .st c.prev, .it .i64 c.gen, .bo c.fork] :: .cells IZ :: .cells [.st c.id, .it .i64 (c.acts.length : Int), .st c.prev, .it .i64 16, .it .i64 time, .st [], .st [], .it .i64 1, .st [], At L, .st [], .st [], .st [], .st [], .it .i64 ge, .sl (.own 4) (acc.map Ba), .it .i64 0, .it .i64 0, .it .i64 0, .it .i64 0] :: .buf acc.length 117 5 :: T ∧ acc = W.take i ∧ i ≤ L.length ∧ m = L.length - i) L.length _ _ (Ay.reserveK 0 3 15 (by rfl) (by rfl) 117 5)
   ⟨Ad, Ad, Ad, Ad, Ad, Ad, 0, [], [], Ad, rfl, by simp, by omega, rfl⟩ ?_
  clear s2 s3 s5 s6 s7 s8 s14 s16 s17 s18;rintro m e S ⟨s5, s7, s14, s17, s22, s23, i, acc, T, s24, rfl, hacc, hi, rfl⟩
  rw [Ei s14];have hT1 : ∀ y : SObj, (T ++ [y])[T.length]? = some y := fun y => by simp
  have hT2 : ∀ y z : SObj, (T ++ [y]).set T.length z = T ++ [z] := fun y z => by simp
  have hal : acc.length = i := by rw [hacc, List.length_take]; omega
  have hsw := Qq acc;by_cases hlt : i < L.length
  ·have hg : ps[i]? = some (ps[i]'(by omega)) := List.getElem?_eq_getElem (by omega)
   have hwi := hwg i;rw [hg] at hwi;have hlt' : (i : Int) < (L.length : Int) := by omega
   have hltp : (i : Int) < (ps.length : Int) := by omega
   have w1 := Bx (k := i) (by omega)
   have hpo := hallp i _ hg;have t3 := AL (i : Int) (by omega)
   have l3 := Aj (i : Int) (by omega)
   generalize ps[i]'(by omega) = p at *
   have kw := Qy p (x1 ++ x2 ++ Ag (i : Int)) s (by omega) (by simp only [List.length_append]; omega) (by omega)
   change W[i]? = some (F9 p (x1 ++ x2 ++ Ag (i : Int)) s) at hwi;generalize Ag (i : Int) = x3 at *;generalize F9 p (x1 ++ x2 ++ x3) s = wv at *;have hst : acc ++ [wv] = W.take (i + 1) := by
    obtain ⟨h1, h2⟩ := List.getElem?_eq_some_iff.1 hwi
    rw [List.take_succ_eq_append_getElem h1, h2, hacc]
   refine Aa (Aw @s5 @s7 @s14 @s17 @s22 @s23 @s24 @hlt' @hltp @hg @hsp) ?_;refine cp t1 ?_;refine Aa (A7 @s5 @s7 @s14 @s17 @s22 @s23 @s24) ?_;refine cp t2 ?_;refine Aa (A7 @s5 @s7 @s14 @s17 @s22 @s23 @s24) ?_;refine cp t3 ?_;refine Aa (A7 @s5 @s7 @s14 @s17 @s22 @s23 @s24) ?_;refine cp kw ?_;refine Aa (Aw @s5 @s7 @s14 @s17 @s22 @s23 @s24 @hT1 @hT2 @hsw @w1) ?_;exact Ao (L.length - (i + 1)) (by omega) ⟨Ad, Ad, Ad, Ad, Ad, Ad, i + 1, acc ++ [wv], _, Ad, by rw [List.map_append, List.length_append]; rfl, hst, by omega, rfl⟩
  ·obtain rfl : i = L.length := by omega
   rw [List.take_of_length_le (by omega)] at hacc
   subst hacc;have hlt' : ¬ (L.length : Int) < (L.length : Int) := by omega
   refine Aa (A8 @s5 @s7 @s14 @s17 @s22 @s23 @s24 @hlt') ?_;refine cp kr ?_;rcases hrq with ⟨hrt, rfl⟩ | ⟨hrt, rfl⟩
   ·rw [hrt]
    refine Aa (A7 @s5 @s7 @s14 @s17 @s22 @s23 @s24) ?_;exact Am
   ·rw [hrt]
    generalize BI k A = sd at *;refine Aa (A7 @s5 @s7 @s14 @s17 @s22 @s23 @s24) ?_;refine cp ks ?_;refine run ?_;exact Am
end Pe
end
section
namespace Pe
open _root_.Go.Proofs.Tryz
open Go Go.RowKit Co Sg Ac It Sl Tp
set_option maxRecDepth 100000
set_option maxHeartbeats 4000000
theorem OJ (a : Ac.Act) : AC prog 28 [As a] [] (AH a) [] := by
 refine Ai [] [] func28 ?_;refine run ?_;exact Am
theorem Pa (a : Ac.Act) (h : Iz (Av a)) : AC prog 68 [As a] [] (.st (dg a)) [] := by
 have k1 := OJ a;have k2 := F2 a h;generalize dg a = d at *;refine Ai [28, 73] [] func68 ?_;refine run ?_;refine cp k1 ?_;refine run ?_;refine cp k2 ?_;refine run ?_;exact Ab
theorem ZdL (ps : List Int) (l : List Ac.Act) (me : Int) (a : Ac.Act) (hl : l.length ≤ 100) (hr : Bt l) (hz : Sz a) : AC prog 27 [BN ps l, .it .i64 me, As a] [] (.it .i64 (Fz l me a)) [] := by
 obtain ⟨q, hq⟩ : ∃ q, Fz l me a = q := ⟨_, rfl⟩
 rw [hq];unfold Fz at hq;simp only at hq
 have k1 := G2 a hz;obtain ⟨hok, _, _⟩ := MD hr a.author;have k3 := Nl ps l a.author hl hr;have hcl := hok.len;have hck := hok.klen;generalize Cl l a.author = c at *;cases hra : Ac.right a with
 | false =>
  obtain rfl : q = 1 := by rw [← hq, if_pos hra]
  rw [hra] at k1;refine Ai [69, 68, 70, 62, 59, 71, 72] [] func27 ?_;refine run ?_;refine cp k1 ?_;refine run ?_;exact Ab
 | true =>
 rw [if_neg (by rw [hra]; decide)] at hq
 rw [hra] at k1;have hia := (DE (Dg [] hra).1);have kid := Pa a hia;have kha := SW ps l (dg a) (by omega) (fun x hx => DE (Dg [] (hr x hx)).1)
 obtain ⟨_, hn, hm⟩ := P5 hra;have ko := P3 a.n hn;have kv := M1 a.n a hz hn;have kf := PS c a (by omega) hok.acts hz
 have hlast := hok.last;have kw := M1 (Do c).pub a hz (by omega)
 refine Ai [69, 68, 70, 62, 59, 71, 72] [] func27 ?_;refine run ?_;refine cp k1 ?_;refine run ?_;refine cp kid ?_;refine run ?_;refine cp kha ?_;cases hh : Ix l (dg a) with
 | true =>
  obtain rfl : q = 13 := by rw [← hq, if_pos hh]
  refine run ?_;exact Ab
 | false =>
 rw [if_neg (by rw [hh]; decide)] at hq
 refine run ?_;refine cp k3 ?_;by_cases h0 : a.kind = 0
 ·have q0 : (a.kind == 0) = true := beq_iff_eq.2 h0
  rw [if_pos h0] at hq;by_cases h1 : a.m = me
  rotate_left
  ·have q1 : (a.m != me) = true := B6 h1
   obtain rfl : q = 10 := by rw [← hq, if_pos h1]
   refine Aa (an @q0 @q1) ?_;exact Ab
  rw [if_neg (fun h => h h1)] at hq
  have q1 : (a.m != me) = false := B7 h1;by_cases h2 : c.acts = []
  rotate_left
  ·have h2l : 0 < c.acts.length := List.length_pos_iff.2 h2
   have q2 : (c.acts.length : Int) > 0 := by omega
   obtain rfl : q = 13 := by rw [← hq, if_pos (.inl h2)]
   refine Aa (A3 @q0 @q1 @q2) ?_;exact Ab
  have h2l : c.acts.length = 0 := by rw [h2]; rfl
  have q2 : ¬ (c.acts.length : Int) > 0 := by omega
  cases h3 : c.fork with
  | true =>
   obtain rfl : q = 13 := by rw [← hq, if_pos (.inr h3)]
   refine Aa (A4 @q0 @q1 @q2 @h3) ?_;exact Ab
  | false =>
  rw [if_neg (fun h => by rcases h with h | h; exact h h2; rw [h3] at h; cases h)] at hq
  by_cases h4 : CA a.n = a.author
  rotate_left
  ·have q4 : (CA a.n == a.author) = false := L9 h4
   obtain rfl : q = 1 := by rw [← hq, if_pos h4]
   refine Aa (A4 @q0 @q1 @q2 @h3) ?_;refine cp ko ?_;refine Aa @q4 ?_;exact Ab
  rw [if_neg (fun h => h h4)] at hq
  have q4 : (CA a.n == a.author) = true := Ma h4;refine Aa (A4 @q0 @q1 @q2 @h3) ?_;refine cp ko ?_;refine Aa @q4 ?_;refine cp kv ?_;cases h5 : C7 a.n a with
  | false =>
   obtain rfl : q = 3 := by rw [← hq, if_pos h5]
   refine run ?_;exact Ab
  | true =>
   obtain rfl : q = 0 := by rw [← hq, if_neg (by rw [h5]; decide)]
   refine run ?_;exact Ab
 ·have q0 : (a.kind == 0) = false := beq_eq_false_iff_ne.2 h0
  rw [if_neg h0] at hq;by_cases h2 : c.acts = []
  ·have h2l : c.acts.length = 0 := by rw [h2]; rfl
   have q2 : ((c.acts.length : Int) == 0) = true := beq_iff_eq.2 (by omega)
   obtain rfl : q = 6 := by rw [← hq, if_pos h2]
   refine Aa (an @q0 @q2) ?_;exact Ab
  have h2l : 0 < c.acts.length := List.length_pos_iff.2 h2;have q2 : ((c.acts.length : Int) == 0) = false := beq_eq_false_iff_ne.2 (by omega)
  rw [if_neg h2] at hq;cases h3 : c.fork with
  | true =>
   obtain rfl : q = 5 := by rw [← hq, if_pos h3]
   refine Aa (A3 @q0 @q2 @h3) ?_;exact Ab
  | false =>
  rw [if_neg (by rw [h3]; decide)] at hq
  change AC _ _ [.agg [.st c.id, BO c.acts, .sl .ro (c.keys.map Bd), .st c.prev, .it .i64 c.gen, .bo c.fork], As a] _ _ _ at kf;rw [h3] at kf;have hkn := hok.key h2;have hkl : 0 < c.keys.length := List.length_pos_iff.2 hkn;have hszk := Ju c.keys;have hlk := MT hkn;have w0 : IntKind.i64.wrap ((c.keys.length : Int) - 1) = ((c.keys.length - 1 : Nat) : Int) := by rw [wrap64 (by omega) (by omega)]; omega
  have hkb : ((c.keys.length - 1 : Nat) : Int) < (c.keys.length : Int) := by omega
  generalize Do c = lk at *;have step2 : ¬ (lk.home ≠ me ∧ (a.kind ≠ 18 ∨ a.m ≠ me)) → (lk.home != me) = false ∨ ((lk.home != me) = true ∧ (a.kind != 18) = false ∧ (a.m != me) = false) := fun h => by
   by_cases e1 : lk.home = me
   ·exact .inl (B7 e1)
   ·by_cases e2 : a.kind = 18
    ·by_cases e3 : a.m = me
     ·exact .inr ⟨B6 e1, B7 e2, B7 e3⟩
     ·exact absurd ⟨e1, .inr e3⟩ h
    ·exact absurd ⟨e1, .inl e2⟩ h
  by_cases h6 : lk.home ≠ me ∧ (a.kind ≠ 18 ∨ a.m ≠ me)
  ·have q6 : (lk.home != me) = true := B6 h6.1
   obtain rfl : q = 10 := by rw [← hq, if_pos h6]
   by_cases e2 : a.kind = 18
   ·have q7 : (a.kind != 18) = false := B7 e2
    have q8 : (a.m != me) = true := B6 (h6.2.resolve_left (fun h => h e2))
    refine Aa (B1 @q0 @q2 @h3 @w0 @hlk @hszk @hkb @q6 @q7 @q8) ?_;exact Ab
   ·have q7 : (a.kind != 18) = true := B6 e2
    refine Aa (A9 @q0 @q2 @h3 @w0 @hlk @hszk @hkb @q6 @q7) ?_;exact Ab
  rw [if_neg h6] at hq;cases h7 : Cc c a with
  | false =>
   obtain rfl : q = 4 := by rw [← hq, if_pos h7]
   rw [h7] at kf;rcases step2 h6 with q6 | ⟨q6, q7, q8⟩
   ·refine Aa (A8 @q0 @q2 @h3 @w0 @hlk @hszk @hkb @q6) ?_
    refine cp kf ?_;refine run ?_;exact Ab
   ·refine Aa (B1 @q0 @q2 @h3 @w0 @hlk @hszk @hkb @q6 @q7 @q8) ?_
    refine cp kf ?_;refine run ?_;exact Ab
  | true =>
  rw [if_neg (by rw [h7]; decide)] at hq
  rw [h7] at kf;cases h8 : C7 lk.pub a with
  | false =>
   obtain rfl : q = 3 := by rw [← hq, if_pos h8]
   rw [h8] at kw;rcases step2 h6 with q6 | ⟨q6, q7, q8⟩
   ·refine Aa (A8 @q0 @q2 @h3 @w0 @hlk @hszk @hkb @q6) ?_
    refine cp kf ?_;refine run ?_;refine cp kw ?_;refine run ?_;exact Ab
   ·refine Aa (B1 @q0 @q2 @h3 @w0 @hlk @hszk @hkb @q6 @q7 @q8) ?_
    refine cp kf ?_;refine run ?_;refine cp kw ?_;refine run ?_;exact Ab
  | true =>
   obtain rfl : q = 0 := by rw [← hq, if_neg (by rw [h8]; decide)]
   rw [h8] at kw;rcases step2 h6 with q6 | ⟨q6, q7, q8⟩
   ·refine Aa (A8 @q0 @q2 @h3 @w0 @hlk @hszk @hkb @q6) ?_
    refine cp kf ?_;refine run ?_;refine cp kw ?_;refine run ?_;exact Ab
   ·refine Aa (B1 @q0 @q2 @h3 @w0 @hlk @hszk @hkb @q6 @q7 @q8) ?_
    refine cp kf ?_;refine run ?_;refine cp kw ?_;refine run ?_;exact Ab
end Pe
end
end Go.Proofs.YtiidnoejnphocaaGreatDoor
