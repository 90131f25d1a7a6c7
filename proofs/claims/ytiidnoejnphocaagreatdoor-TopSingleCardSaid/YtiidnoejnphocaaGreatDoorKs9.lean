import Derived.Test.YtiidnoejnphocaaGreatDoorKs8
import Derived.Deep.RegionHeld3
import Derived.Shelf.Strings.Builder1
import Derived.Shelf.Strings.Builder2
import Derived.Shelf.Strings.OnBuilder
import Derived.Shelf.Bits.Mul64
import Derived.Test.YtiidnoejnphocaaGreatDoorProg
import Derived.Laws.Entries
set_option linter.unusedSectionVars false
set_option linter.unusedVariables false
set_option linter.unusedSimpArgs false
namespace Go.Proofs.YtiidnoejnphocaaGreatDoor
section
section
open Go.RowKit Sm
theorem KG (x : BitVec 32) (n : Int) (w : World) (h0 : 0 < n) (h : n < 32) :
  Calls Tryz.prog 289 #[Ah x, .int .i64 n] w fun e w' => e = .returned (Ah (CZ x n.toNat)) ∧ ∃ m, w' = w.drewN m := by
 have e := Zc x n h0 h;have E := Veil.mk e; clear e;have q0 : 0 ≤ n := by omega
 have q1 : 0 ≤ 32 - n := by omega
 have q2 : n ≤ 32 := by omega
 go_enter Tryz.func289, Tryz.ntmps289
 go_wp2
 go_quiet (fail)
 go_wp2
 go_ret
 rw [← E.out];exact ⟨rfl, _, rfl⟩
theorem Zi (s : ByteArray) (w : World) (hs : s.size ≤ 9223372036854775807) :
  Calls Tryz.prog 242 #[.string s] w fun e w' => e = .returned (.int .i64 (num s.data.toList)) ∧ w = w' := by
 go_enter Tryz.func242, Tryz.ntmps242
 go_wp2
 go_loop [3, 4, 5] (fun r i _ => ∃ k : Nat, k ≤ 8 ∧ i = .int .i64 k ∧ r = .int .i64 (if k ≤ 7 then (BL s.data.toList k : Int) else (num s.data.toList : Int))) (fun _ i _ => 8 - (intOf i).toNat)
 case atStart => exact ⟨0, by omega, rfl, rfl⟩
 case round =>
  obtain ⟨k, hk, rfl, rfl⟩ := hrel;by_cases hlt : k < 8
  ·have h7 : k ≤ 7 := by omega
   rw [if_pos h7];have hn := nat8_lt s.data.toList k;have hp : 256 ^ k ≤ 256 ^ 7 := Nat.pow_le_pow_right (by omega) h7
   have hnb : BL s.data.toList k < 72057594037927936 := by omega
   clear hn hp;obtain ⟨b, hb⟩ : ∃ b : Nat, b = (s.data.toList.getD k 0).toNat := ⟨_, rfl⟩
   have hb8 : b < 256 := by have := (s.data.toList.getD k 0).toNat_lt; omega
   have st : k < 7 → ((BL s.data.toList (k + 1) : Nat) : Int) = 256 * (BL s.data.toList k : Int) + (b : Int) := by
    intro _; rw [BL, hb]; omega
   have hsm : k < 7 → BL s.data.toList k < 281474976710656 := by
    intro h;have h1 := nat8_lt s.data.toList k;have h2 : 256 ^ k ≤ 256 ^ 6 := Nat.pow_le_pow_right (by omega) (by omega)
    omega
   have sl : k = 7 → (num s.data.toList : Int) = 32 * (BL s.data.toList k : Int) + (b : Int) / 8 := by
    intro h; subst h; rw [hb]; exact (Zaq _).symm
   have ek : ∀ (h : k < s.size), ((s[k]).toNat : Int) = (b : Int) := by
    intro h;rw [hb, List.getD_eq_getElem?_getD, List.getElem?_eq_getElem (by simpa using h)]; rfl
   have e0 : ¬ k < s.size → (b : Int) = 0 := by
    intro h;rw [hb, List.getD_eq_getElem?_getD, List.getElem?_eq_none (by simp; omega)]; rfl
   clear hb;generalize hn : BL s.data.toList k = n at st sl hnb hsm ⊢;have Hn := Veil.mk hn;have St := Veil.mk st;have Sl := Veil.mk sl;have Ek := Veil.mk ek;have E0 := Veil.mk e0;have Hsm := Veil.mk hsm;clear hn st sl ek e0 hsm;by_cases hl : k < s.size
   ·have ek := Ek.out hl
    by_cases hk7 : k < 7
    ·have hsm := Hsm.out hk7
     go_wp2
     go_round
     case rel => exact ⟨k + 1, by omega, by go_num, LW (by rw [if_pos (by omega), St.out hk7])⟩
     case measure => simp [intOf]; omega
    ·go_wp2
     go_round
     case rel => exact ⟨k + 1, by omega, by go_num, LW (by rw [if_neg (by omega), Sl.out (by omega)])⟩
     case measure => simp [intOf]; omega
   ·by_cases hk7 : k < 7
    ·have hsm := Hsm.out hk7
     go_wp2
     go_round
     case rel => exact ⟨k + 1, by omega, by go_num, LW (by rw [if_pos (by omega), St.out hk7, E0.out hl, Int.add_zero])⟩
     case measure => simp [intOf]; omega
    ·go_wp2
     go_round
     case rel => exact ⟨k + 1, by omega, by go_num, LW (by rw [if_neg (by omega), Sl.out (by omega), E0.out hl]; rfl)⟩
     case measure => simp [intOf]; omega
  ·obtain rfl : k = 8 := by omega
   rw [if_neg (by omega)]
   go_wp2
   go_ret
   exact ⟨rfl, rfl⟩
theorem PH : ES Tryz.prog 227 172 1 4 := ES.mk' (z := .int .u32 0) Tryz.underlying227 (by kernel_rfl) rfl (by decide)
set_option maxRecDepth 100000 in
set_option maxHeartbeats 4000000 in
theorem YQ (g o c : Nat) (l : List UInt8) (w : World) (hcell : ∀ j, j < 64 → w.cell? ⟨g, o + j, none⟩ = some (w8 (l.getD j 0))) (hl : l.length = 64) (_hc : 64 ≤ c) (hB : g < w.heap.size) :
  Calls Tryz.prog 287 #[.slice (some ⟨g, o, none⟩) 64 c] w fun e w' => ∃ v', e = .returned v' ∧ Ap w' w.heap.size 172 1 v' ((CY l).map Ah) ∧ Below w.heap.size w w' := by
 have Hcell := Veil.mk hcell; clear hcell;have Hl := Veil.mk hl; clear hl;go_enter Tryz.func287, Tryz.ntmps287
 go_wp2
 go_loopw [3, 4] (fun v i wr => ∃ k : Nat, k ≤ 16 ∧ i = .int .i64 k ∧ Ap wr w.heap.size 172 1 v ((E9 l k).map Ah) ∧ Below w.heap.size w wr) (fun _ i _ => 16 - (intOf i).toNat)
 case atStart => exact ⟨0, by omega, rfl, Ap.nil _ _ _ _, Below.refl _ _⟩
 case round =>
  obtain ⟨k, hk, rfl, hown, hb⟩ := hrel;have hle := hb.size;by_cases hlt : k < 16
  ·have rd : ∀ j, j < 64 → wr.cell? ⟨g, o + j, none⟩ = some (w8 (l.getD j 0)) := fun j hj => (hb.cell hB).trans (Hcell.out j hj)
   have c0 := rd (4 * k) (by omega)
   have c1 := rd (4 * k + 1) (by omega)
   have c2 := rd (4 * k + 2) (by omega)
   have c3 := rd (4 * k + 3) (by omega)
   clear rd;have hw : JV (l.getD (4 * k) 0) (l.getD (4 * k + 1) 0) (l.getD (4 * k + 2) 0) (l.getD (4 * k + 3) 0) = LS l k := rfl;have Hw := Veil.mk hw; clear hw;generalize l.getD (4 * k) 0 = b0 at c0 Hw;generalize l.getD (4 * k + 1) 0 = b1 at c1 Hw;generalize l.getD (4 * k + 2) 0 = b2 at c2 Hw;generalize l.getD (4 * k + 3) 0 = b3 at c3 Hw;have c2' : wr.cell? ⟨g, o + (4 * k + 1 + 1), none⟩ = some (w8 b2) := c2;have c3' : wr.cell? ⟨g, o + (4 * k + 2 + 1), none⟩ = some (w8 b3) := c3;clear c2 c3;have hC : ∀ {W : World}, Below w.heap.size w W → W.cell? ⟨g, o + 4 * k, none⟩ = some (w8 b0) ∧ W.cell? ⟨g, o + (4 * k + 1), none⟩ = some (w8 b1) ∧ W.cell? ⟨g, o + (4 * k + 1 + 1), none⟩ = some (w8 b2) ∧ W.cell? ⟨g, o + (4 * k + 2 + 1), none⟩ = some (w8 b3) := fun hB' =>
    ⟨(hB'.cell hB).trans ((hb.cell hB).symm.trans c0), (hB'.cell hB).trans ((hb.cell hB).symm.trans c1), (hB'.cell hB).trans ((hb.cell hB).symm.trans c2'), (hB'.cell hB).trans ((hb.cell hB).symm.trans c3')⟩
   have HC := Veil.mk @hC; clear hC;have hsum := Xs b0 b1 b2 b3;have Hsum := Veil.mk (hsum.trans Hw.out); clear hsum Hw;have i0 : (4 : Int) * (k : Int) < 64 := by omega
   have i1 : (4 : Int) * (k : Int) + 1 < 64 := by omega
   have i2 : (4 : Int) * (k : Int) + 2 < 64 := by omega
   have i3 : (4 : Int) * (k : Int) + 3 < 64 := by omega
   have w0 : IntKind.i64.wrap (4 * (k : Int)) = 4 * (k : Int) := by rw [IntKind.wrap_i64]; omega
   have w1 : IntKind.i64.wrap (4 * (k : Int) + 1) = 4 * (k : Int) + 1 := by rw [IntKind.wrap_i64]; omega
   have w2 : IntKind.i64.wrap (4 * (k : Int) + 2) = 4 * (k : Int) + 2 := by rw [IntKind.wrap_i64]; omega
   have w3 : IntKind.i64.wrap (4 * (k : Int) + 3) = 4 * (k : Int) + 3 := by rw [IntKind.wrap_i64]; omega
   have t0 : (4 * (k : Int)).toNat = 4 * k := by omega
   have t1 : (4 * (k : Int) + 1).toNat = 4 * k + 1 := by omega
   have t2 : (4 * (k : Int) + 2).toNat = 4 * k + 2 := by omega
   have t3 : (4 * (k : Int) + 3).toNat = 4 * k + 3 := by omega
   have p0 : 0 ≤ 4 * (k : Int) := by omega
   have p1 : 0 ≤ 4 * (k : Int) + 1 := by omega
   have p2 : 0 ≤ 4 * (k : Int) + 2 := by omega
   have p3 : 0 ≤ 4 * (k : Int) + 3 := by omega
   have hl1 : (((E9 l k).map Ah).length + [Ah (bw b0 * 16777216#32 + bw b1 * 65536#32 + bw b2 * 256#32 + bw b3)].length) * 4 ≤ 140737488355328 := by
    rw [List.length_map, Py]; simp only [List.length_singleton]; omega
   have hl2 : ((E9 l k).map Ah).length + [Ah (bw b0 * 16777216#32 + bw b1 * 65536#32 + bw b2 * 256#32 + bw b3)].length ≤ 140737488355328 := by
    rw [List.length_map, Py]; simp only [List.length_singleton]; omega
   have HL1 := Veil.mk hl1;have HL2 := Veil.mk hl2;clear hl1 hl2;go_wp2
   have Hb := Veil.mk hb; have Hown := Veil.mk hown; have HlE := Veil.mk hle; clear hb hown hle;go_region_held3 (fun W => W.cell? ⟨g, o + 4 * k, none⟩ = some (w8 b0) ∧ W.cell? ⟨g, o + (4 * k + 1), none⟩ = some (w8 b1) ∧ W.cell? ⟨g, o + (4 * k + 1 + 1), none⟩ = some (w8 b2) ∧ W.cell? ⟨g, o + (4 * k + 2 + 1), none⟩ = some (w8 b3)) (first | go_keep | exact HC.out hb') (first | (refine N9 wr.drew rfl (.tmp 14) (.tmp 48) _ rfl PH [Ah (bw b0 * 16777216#32 + bw b1 * 65536#32 + bw b2 * 256#32 + bw b3)] Hown.out.drew rfl rfl (Gl rfl) HL1.out HL2.out HlE.out ?_; intro v' w' own' gr'; have hb' := FC Hb.out.drew gr' Hown.out.drew (Nat.le_refl _) HlE.out))
   all_goals
    have hb := Hb.out;have hown := Hown.out;have hle := HlE.out;have own2 : Ap w' w.heap.size 172 1 v' ((E9 l (k + 1)).map Ah) := by
     rw [TV, List.map_append, ← Hsum.out]; exact own'
    clear own' gr';go_wp2
    go_roundw
    case rel => exact ⟨k + 1, by omega, by go_num, own2, hb'⟩
    case measure => simp [intOf]; omega
  ·have hk16 : 16 ≤ k := by omega
   have hown := Veil.mk (show Ap wr w.heap.size 172 1 _ ((BF l (16 - 16)).map Ah) by
    obtain rfl : k = 16 := by omega
    exact hown)
   clear hlt;go_wp2
   go_loopw [3, 5, 6, 7, 8, 9] (fun v i _ _ _ _ wr => ∃ m : Nat, 16 ≤ m ∧ m ≤ 64 ∧ i = .int .i64 m ∧ Ap wr w.heap.size 172 1 v ((BF l (m - 16)).map Ah) ∧ Below w.heap.size w wr) (fun _ i _ _ _ _ _ => 64 - (intOf i).toNat)
   case atStart => exact ⟨16, by omega, by omega, rfl, hown.out, hb⟩
   case round =>
    clear hown hb hle;obtain ⟨m, hm0, hm, rfl, hown, hb⟩ := hrel;have hle := hb.size;by_cases hlt : m < 64
    ·have hlen := Mi l (m - 16)
     obtain ⟨gw, cw, rfl, hcw, hbw, hgw, hcellw⟩ := hown.form (by rw [List.length_map]; omega)
     rw [List.length_map, hlen, show 16 + (m - 16) = m from by omega] at hown hcw ⊢
     have rd : ∀ j, j < m → wr.cell? ⟨gw, j, none⟩ = some (Ah ((BF l (m - 16)).getD j 0)) := fun j hj => hcellw j _ (by
      rw [List.getElem?_map, List.getElem?_eq_getElem (by omega), List.getD_eq_getElem?_getD, List.getElem?_eq_getElem (by omega)]; rfl)
     clear hcellw;have c15 := rd (m - 15) (by omega)
     have c2 := rd (m - 2) (by omega)
     have c7 := rd (m - 7) (by omega)
     have c16 := rd (m - 16) (by omega)
     clear rd;have hnx : MH (BF l (m - 16)) m = (BF l (m - 16)).getD (m - 16) 0 + Bl ((BF l (m - 16)).getD (m - 15) 0) + (BF l (m - 16)).getD (m - 7) 0 + Ra ((BF l (m - 16)).getD (m - 2) 0) := rfl;generalize (BF l (m - 16)).getD (m - 16) 0 = x16 at c16 hnx;generalize (BF l (m - 16)).getD (m - 15) 0 = x15 at c15 hnx;generalize (BF l (m - 16)).getD (m - 7) 0 = x7 at c7 hnx;generalize (BF l (m - 16)).getD (m - 2) 0 = x2 at c2 hnx;have Hnx := Veil.mk hnx; clear hnx;have Hlen := Veil.mk hlen; clear hlen;have Hown := Veil.mk hown; have Hb := Veil.mk hb; clear hown hb;have b1 : 16 ≤ (m : Int) := by omega
     have b2 : (m : Int) < 64 := by omega
     go_wp2_with (go_at_call 289; refine (KG _ _ _ (by omega) (by omega)).mono ?_; rintro e w' ⟨rfl, mm, rfl⟩)
     generalize hwz : World.drewN wr _ = wz;have c16 : wz.cell? ⟨gw, m - 16, none⟩ = some (Ah x16) := by rw [← hwz]; exact c16
     have c7 : wz.cell? ⟨gw, m - 7, none⟩ = some (Ah x7) := by rw [← hwz]; exact c7
     have Hown2 := Veil.mk (show Ap wz w.heap.size 172 1 (.slice (some ⟨gw, 0, none⟩) m cw) ((BF l (m - 16)).map Ah) by rw [← hwz]; exact Hown.out.drewN _)
     have Hb2 := Veil.mk (show Below w.heap.size w wz by rw [← hwz]; exact He Hb.out _)
     have hle2 := Hb2.out.size;clear hwz c15 c2;have w16 : IntKind.i64.wrap ((m : Int) - 16) = (m : Int) - 16 := by rw [IntKind.wrap_i64]; omega
     have w7 : IntKind.i64.wrap ((m : Int) - 7) = (m : Int) - 7 := by rw [IntKind.wrap_i64]; omega
     have t16 : ((m : Int) - 16).toNat = m - 16 := by omega
     have t7 : ((m : Int) - 7).toNat = m - 7 := by omega
     have p16 : 0 ≤ (m : Int) - 16 := by omega
     have p7 : 0 ≤ (m : Int) - 7 := by omega
     have b7 : 7 ≤ (m : Int) := by omega
     have i16 : (m : Int) - 16 < m := by omega
     have i7 : (m : Int) - 7 < m := by omega
     generalize hX : x16 + (CZ x15 7 ^^^ CZ x15 18 ^^^ x15 >>> 3) + x7 + (CZ x2 17 ^^^ CZ x2 19 ^^^ x2 >>> 10) = X;have HX : Veil (X = MH (BF l (m - 16)) m) := ⟨by rw [← hX, Hnx.out]; rfl⟩
     have hl1 : (((BF l (m - 16)).map Ah).length + [Ah X].length) * 4 ≤ 140737488355328 := by
      rw [List.length_map, Hlen.out]; simp only [List.length_singleton]; omega
     have hl2 : ((BF l (m - 16)).map Ah).length + [Ah X].length ≤ 140737488355328 := by
      rw [List.length_map, Hlen.out]; simp only [List.length_singleton]; omega
     have HL1 := Veil.mk hl1;have HL2 := Veil.mk hl2;clear hl1 hl2 Hb Hown;go_region_law (refine N9 wz.drew rfl (.tmp 80) (.tmp 96) _ rfl PH [Ah X] Hown2.out.drew rfl rfl (Gl rfl) HL1.out HL2.out hle2 ?_; intro v' w' own' gr')
     all_goals
      have own2 : Ap w' w.heap.size 172 1 v' ((BF l (m + 1 - 16)).map Ah) := by
       rw [show m + 1 - 16 = m - 16 + 1 from by omega, BF, show 16 + (m - 16) = m from by omega, List.map_append, ← HX.out]; exact own'
      have hb' := FC Hb2.out.drew gr' Hown2.out.drew (Nat.le_refl _) hle2;clear own' gr' w16 w7 t16 t7 p16 p7 i16 i7;go_wp2
      go_roundw
      case rel => exact ⟨m + 1, by omega, by omega, by go_num, own2, hb'⟩
      case measure => simp [intOf]; omega
    ·have hm64 : m = 64 := by omega
     subst hm64;have hown : Ap wr w.heap.size 172 1 _ ((CY l).map Ah) := hown;go_wp2
     go_ret
     exact ⟨_, rfl, hown, hb⟩
theorem X2 : (Ej.map Ah).toArray = #[.int .u32 1116352408, .int .u32 1899447441, .int .u32 3049323471, .int .u32 3921009573, .int .u32 961987163, .int .u32 1508970993, .int .u32 2453635748, .int .u32 2870763221, .int .u32 3624381080, .int .u32 310598401, .int .u32 607225278, .int .u32 1426881987, .int .u32 1925078388, .int .u32 2162078206, .int .u32 2614888103, .int .u32 3248222580, .int .u32 3835390401, .int .u32 4022224774, .int .u32 264347078, .int .u32 604807628, .int .u32 770255983, .int .u32 1249150122, .int .u32 1555081692, .int .u32 1996064986, .int .u32 2554220882, .int .u32 2821834349, .int .u32 2952996808, .int .u32 3210313671, .int .u32 3336571891, .int .u32 3584528711, .int .u32 113926993, .int .u32 338241895, .int .u32 666307205, .int .u32 773529912, .int .u32 1294757372, .int .u32 1396182291, .int .u32 1695183700, .int .u32 1986661051, .int .u32 2177026350, .int .u32 2456956037, .int .u32 2730485921, .int .u32 2820302411, .int .u32 3259730800, .int .u32 3345764771, .int .u32 3516065817, .int .u32 3600352804, .int .u32 4094571909, .int .u32 275423344, .int .u32 430227734, .int .u32 506948616, .int .u32 659060556, .int .u32 883997877, .int .u32 958139571, .int .u32 1322822218, .int .u32 1537002063, .int .u32 1747873779, .int .u32 1955562222, .int .u32 2024104815, .int .u32 2227730452, .int .u32 2361852424, .int .u32 2428436474, .int .u32 2756734187, .int .u32 3204031479, .int .u32 3329325298] := by kernel_rfl
theorem Lv {w : World} {g : Nat} {l : List (BitVec 32)} (h : ∀ j u, (l.map Ah)[j]? = some u → w.cell? ⟨g, j, none⟩ = some u) (j : Nat) (hj : j < l.length) : w.cell? ⟨g, j, none⟩ = some (Ah (l.getD j 0)) :=
 h j _ (by rw [List.getElem?_map, List.getElem?_eq_getElem hj, List.getD_eq_getElem?_getD, List.getElem?_eq_getElem hj]; rfl)
theorem ZL (w : World) : Calls Tryz.prog 288 #[] w fun e w' => ∃ v, e = .returned v ∧ Ap w' w.heap.size 172 1 v (Ej.map Ah) ∧ Below w.heap.size w w' := by
 go_enter Tryz.func288, Tryz.ntmps288
 go_wp2
 go_ret
 refine ⟨_, rfl, ?_, (Below.refl _ _).alloc (Nat.le_refl _) _⟩
 have h := Ap.lit (e := 172) (base := w.heap.size) (size := 1) w (Ej.map Ah) 64 (Nat.le_refl _) (by unfold maxLen; omega) (by rw [List.length_map, L4])
 rw [X2] at h;exact h
theorem Zbx : BA.cells.toArray = #[.int .u32 1779033703, .int .u32 3144134277, .int .u32 1013904242, .int .u32 2773480762, .int .u32 1359893119, .int .u32 2600822924, .int .u32 528734635, .int .u32 1541459225] := by kernel_rfl
theorem Zv (w : World) : Calls Tryz.prog 194 #[] w fun e w' => ∃ v, e = .returned v ∧ Ap w' w.heap.size 172 1 v BA.cells ∧ Below w.heap.size w w' := by
 go_enter Tryz.func194, Tryz.ntmps194
 go_wp2
 go_ret
 refine ⟨_, rfl, ?_, (Below.refl _ _).alloc (Nat.le_refl _) _⟩
 have h := Ap.lit (e := 172) (base := w.heap.size) (size := 1) w BA.cells 8 (Nat.le_refl _) (by unfold maxLen; omega) (by rw [IG])
 rw [Zbx] at h;exact h
set_option maxRecDepth 100000 in
set_option maxHeartbeats 4000000 in
theorem Zk (st : S8) (gh ch g o c : Nat) (l : List UInt8) (w : World) (hh : ∀ j, j < 8 → w.cell? ⟨gh, j, none⟩ = some (Ah (st.list.getD j 0))) (hgh : gh < w.heap.size) (hch : 8 ≤ ch)
  (hcell : ∀ j, j < 64 → w.cell? ⟨g, o + j, none⟩ = some (w8 (l.getD j 0))) (hl : l.length = 64) (hc : 64 ≤ c) (hB : g < w.heap.size) :
  Calls Tryz.prog 195 #[.slice (some ⟨gh, 0, none⟩) 8 ch, .slice (some ⟨g, o, none⟩) 64 c] w fun e w' => ∃ v', e = .returned v' ∧ Ap w' w.heap.size 172 1 v' (Fu st l).cells ∧ Below w.heap.size w w' := by
 have Hh := Veil.mk hh; clear hh;have Hcell := Veil.mk hcell; clear hcell;have Hl := Veil.mk hl; clear hl;have Hr : Rd w w.heap.size 1 (.slice (some ⟨gh, 0, none⟩) 8 ch) st.cells := ⟨_, 8, ch, rfl, hch, rfl, fun _ => ⟨_, rfl, hgh, fun j u hu => by
  have hj : j < 8 := (List.getElem?_eq_some_iff.1 hu).1
  rw [Addr.add_lit, Nat.zero_add, Hh.out j hj];rw [ZdR, List.getElem?_map] at hu
  rw [List.getD_eq_getElem?_getD]
  obtain ⟨x, hx, rfl⟩ := Option.map_eq_some_iff.1 hu;rw [hx]; rfl⟩⟩
 have HR := Veil.mk Hr; clear Hr;go_enter Tryz.func195, Tryz.ntmps195
 go_wp2_with (first
  | (go_at_call 287
     refine (YQ g o c l _ Hcell.out Hl.out hc hB).mono ?_
     rintro e w1 ⟨vw, rfl, ownw, hb1⟩
     have hs1 := hb1.size;have HB1 := Veil.mk hb1; clear hb1)
  | (go_at_call 288
     refine (ZL _).mono ?_
     rintro e w2 ⟨vk, rfl, ownk, hb2⟩
     have hs2 := hb2.size;have HB2 := Veil.mk hb2; clear hb2;have Hownw := Veil.mk (ownw.below HB2.out (Nat.le_refl _)); clear ownw;have Hownk := Veil.mk ownk; clear ownk;have HB := Veil.mk (HB1.out.trans (HB2.out.mono hs1)); clear HB1 HB2;have HR2 := Veil.mk (HR.out.below HB.out);have HO8 := Veil.mk (OI st.list);have H0 := Veil.mk (Ap.lit (e := 172) (base := w.heap.size) (size := 1) w2 [] 0 (by omega) (by unfold maxLen; omega) rfl)
     have HR3 := Veil.mk (HR2.out.alloc (Nat.le_trans hs1 hs2) (.cells #[] 172));have hle2 : w.heap.size ≤ (w2.alloc (.cells #[] 172)).heap.size := by simp; omega
     clear HR HR2)
  | (at_builtin
     go_loud (refine VK (w2.alloc (.cells #[] 172)) rfl _ _ _ rfl PH H0.out rfl HR3.out rfl HO8.out ?_ ?_ hle2 ?_)
     rotate_left 2;intro v3 w3 own3 gr3 hx3;clear hx3;have gr3 : w2.grownBy w3 (some w2.heap.size) := Pf gr3;have hs3 := gr3.size;have HBw : Below w.heap.size w w3 := HB.out.grown gr3 (by omega) (fun k hk => by cases hk; omega)
     have own3 : Ap w3 w.heap.size 172 1 v3 (st.list.map Ah) := own3;have hw3 := Hownw.out.grown gr3 (fun g hg => by have := (Hownw.out.block g hg).2; simp; omega)
     have hk3 := Hownk.out.grown gr3 (fun g hg => by have := (Hownk.out.block g hg).2; simp; omega)
     clear gr3 H0 HR3 HO8))
 rotate_left 1
 ·show (0 + 8) * 4 ≤ _; omega
 ·show 0 + 8 ≤ _; omega
 obtain ⟨gw, cw, rfl, hcw, hbw, hgw, hcellw⟩ := hw3.form (by rw [List.length_map, Jf]; omega)
 obtain ⟨gk, ck, rfl, hck, hbk, hgk, hcellk⟩ := hk3.form (by rw [List.length_map, L4]; omega)
 have CW := Veil.mk (Lv hcellw); clear hcellw hw3 Hownw;have CK := Veil.mk (Lv hcellk); clear hcellk hk3 Hownk;rw [List.length_map, Jf] at hcw ⊢;rw [List.length_map, L4] at hck ⊢;have HBw := Veil.mk HBw;have HB3 := Veil.mk (Below.refl w3.heap.size w3);have Own3 := Veil.mk own3;clear own3;go_loopw [7, 8, 9, 10, 11, 12] (fun v i _ _ _ _ wr => ∃ (n : Nat) (s : S8), n ≤ 64 ∧ i = .int .i64 n ∧ Veil (Ap wr w.heap.size 172 1 v (s.list.map Ah)) ∧ Veil (s = Ia l st n) ∧ Veil (Below w3.heap.size w3 wr)) (fun _ i _ _ _ _ _ => 64 - (intOf i).toNat)
 case atStart => exact ⟨0, st, by omega, rfl, Own3, ⟨rfl⟩, HB3⟩
 case round =>
  obtain ⟨n, s, hn, rfl, Hown, Hs, HBr⟩ := hrel;obtain ⟨gv, cv, rfl, hcv, hbv, hgv, hcellv⟩ := Hown.out.form (by rw [List.length_map, Iq]; omega)
  rw [List.length_map, Iq] at hcv ⊢;have CV := Veil.mk (Lv hcellv); clear hcellv;by_cases hlt : n < 64
  ·have ck := (HBr.out.cell hgk).trans (CK.out n (by rw [L4]; exact hlt))
   have cw := (HBr.out.cell hgw).trans (CW.out n (by rw [Jf]; exact hlt))
   have hrd : Ia l st (n + 1) = Jk (Ej.getD n 0) ((CY l).getD n 0) s := by rw [Ia, ← Hs.out]
   generalize Ej.getD n 0 = kn at ck hrd;generalize (CY l).getD n 0 = xn at cw hrd;have Hrd := Veil.mk hrd; clear hrd;obtain ⟨sa, sb, sc, sd, se, sf, sg, sh⟩ := s;have c0 : wr.cell? ⟨gv, 0, none⟩ = some (Ah sa) := CV.out 0 (by show 0 < 8; omega)
   have c1 : wr.cell? ⟨gv, 1, none⟩ = some (Ah sb) := CV.out 1 (by show 1 < 8; omega)
   have c2 : wr.cell? ⟨gv, 2, none⟩ = some (Ah sc) := CV.out 2 (by show 2 < 8; omega)
   have c3 : wr.cell? ⟨gv, 3, none⟩ = some (Ah sd) := CV.out 3 (by show 3 < 8; omega)
   have c4 : wr.cell? ⟨gv, 4, none⟩ = some (Ah se) := CV.out 4 (by show 4 < 8; omega)
   have c5 : wr.cell? ⟨gv, 5, none⟩ = some (Ah sf) := CV.out 5 (by show 5 < 8; omega)
   have c6 : wr.cell? ⟨gv, 6, none⟩ = some (Ah sg) := CV.out 6 (by show 6 < 8; omega)
   have c7 : wr.cell? ⟨gv, 7, none⟩ = some (Ah sh) := CV.out 7 (by show 7 < 8; omega)
   clear CV;go_wp2
   go_quiet ((go_at_call 289; first | exact Calls.quiet_of (KG _ _ _ (by omega) (by omega)) | exact quiet_more (KG _ _ _ (by omega) (by omega))))
   go_wp2
   go_quiet (fail)
   go_wp2
   generalize hwq : World.drewN (World.drewN wr _) _ = wq;have c0 : wq.cell? ⟨gv, 0, none⟩ = some (Ah sa) := by rw [← hwq]; exact c0
   have c1 : wq.cell? ⟨gv, 1, none⟩ = some (Ah sb) := by rw [← hwq]; exact c1
   have c2 : wq.cell? ⟨gv, 2, none⟩ = some (Ah sc) := by rw [← hwq]; exact c2
   have c3 : wq.cell? ⟨gv, 3, none⟩ = some (Ah sd) := by rw [← hwq]; exact c3
   have c4 : wq.cell? ⟨gv, 4, none⟩ = some (Ah se) := by rw [← hwq]; exact c4
   have c5 : wq.cell? ⟨gv, 5, none⟩ = some (Ah sf) := by rw [← hwq]; exact c5
   have c6 : wq.cell? ⟨gv, 6, none⟩ = some (Ah sg) := by rw [← hwq]; exact c6
   have c7 : wq.cell? ⟨gv, 7, none⟩ = some (Ah sh) := by rw [← hwq]; exact c7
   have HBq := Veil.mk (show Below w3.heap.size w3 wq by rw [← hwq]; exact He (He HBr.out _) _)
   clear hwq ck cw;go_quiet ((go_at_call 289; first | exact Calls.quiet_of (KG _ _ _ (by omega) (by omega)) | (refine quiet_more ?_; exact KG _ _ _ (by omega) (by omega))))
   go_wp2
   go_quiet (fail)
   go_wp2
   generalize hwz : World.drewN (World.drewN wq _) _ = wz;have c0 : wz.cell? ⟨gv, 0, none⟩ = some (Ah sa) := by rw [← hwz]; exact c0
   have c1 : wz.cell? ⟨gv, 1, none⟩ = some (Ah sb) := by rw [← hwz]; exact c1
   have c2 : wz.cell? ⟨gv, 2, none⟩ = some (Ah sc) := by rw [← hwz]; exact c2
   have c3 : wz.cell? ⟨gv, 3, none⟩ = some (Ah sd) := by rw [← hwz]; exact c3
   have c4 : wz.cell? ⟨gv, 4, none⟩ = some (Ah se) := by rw [← hwz]; exact c4
   have c5 : wz.cell? ⟨gv, 5, none⟩ = some (Ah sf) := by rw [← hwz]; exact c5
   have c6 : wz.cell? ⟨gv, 6, none⟩ = some (Ah sg) := by rw [← hwz]; exact c6
   have HBz := Veil.mk (show Below w3.heap.size w3 wz by rw [← hwz]; exact He (He HBq.out _) _)
   clear hwz HBq;have hsz := HBz.out.size;refine wp_region_still_tail 26 (by kernel_rfl) (by kernel_rfl) ?_
   simp only [List.take_succ_cons, List.take_zero, List.drop_succ_cons, List.drop_zero];repeat still_step
   refine wpStill_nil ?_
   change wpList _ _ _ _ _ wz.drew;go_wp2
   have HBn := Veil.mk ((HBz.out.drew).alloc hsz (.cells (Jk kn xn ⟨sa, sb, sc, sd, se, sf, sg, sh⟩).cells.toArray 172));have HOn := Veil.mk (Ap.lit (e := 172) (base := w.heap.size) (size := 1) wz.drew (Jk kn xn ⟨sa, sb, sc, sd, se, sf, sg, sh⟩).cells 8 (Nat.le_trans HBw.out.size hsz) (by unfold maxLen; omega) rfl)
   go_roundw
   case rel => exact ⟨n + 1, Jk kn xn ⟨sa, sb, sc, sd, se, sf, sg, sh⟩, by omega, by go_num, HOn, ⟨Hrd.out.symm⟩, HBn⟩
   case measure => simp [intOf]; omega
  ·have hn64 : 64 ≤ n := by omega
   have Hm : Veil (Fu st l = st.add s) := ⟨by
    obtain rfl : n = 64 := by omega
    rw [Fu, ← Hs.out]⟩
   have HBw2 := Veil.mk (HBw.out.trans (HBr.out.mono HBw.out.size));clear CV hlt HBr Hs;go_wp2
   go_loopw [13] (fun i wr => ∃ k : Nat, k ≤ 8 ∧ i = .int .i64 k ∧ Veil (Ap wr w.heap.size 172 1 (.slice (some ⟨gv, 0, none⟩) 8 cv) ((FD s.list st.list k).map Ah)) ∧ Veil (Below w.heap.size w wr)) (fun i _ => 8 - (intOf i).toNat)
   case atStart => exact ⟨0, by omega, rfl, Hown, HBw2⟩
   case round =>
    clear Hown HBw2 hgv;obtain ⟨k, hk, rfl, Hown, HB⟩ := hrel;by_cases hlt : k < 8
    ·have hal := Zeu s.list st.list k
     rw [Iq] at hal;obtain ⟨gv', cv', hv', _, hbg, hgv, hcellv⟩ := Hown.out.form (by rw [List.length_map]; omega)
     obtain ⟨rfl, rfl⟩ : gv = gv' ∧ cv = cv' := by
      simp only [Value.slice.injEq, Option.some.injEq, Addr.mk.injEq] at hv';exact ⟨hv'.1.1, hv'.2.2⟩
     clear hv';have cv := Lv hcellv k (by omega)
     have chh := (HB.out.cell hgh).trans (Hh.out k hlt);have hfz := Hown.out.free k (by rw [List.length_map]; omega)
     clear hcellv;have hset : FD s.list st.list (k + 1) = (FD s.list st.list k).set k ((FD s.list st.list k).getD k 0 + st.list.getD k 0) := rfl;generalize (FD s.list st.list k).getD k 0 = x at cv hset;generalize st.list.getD k 0 = y at chh hset;have Hset := Veil.mk hset; clear hset;have Hal := Veil.mk hal; clear hal;have k8 : (k : Int) < 8 := by omega
     go_wp2
     refine wp_region_still_tail 12 (by kernel_rfl) (by kernel_rfl) ?_
     simp only [List.take_succ_cons, List.take_zero, List.drop_succ_cons, List.drop_zero];repeat still_step
     refine wpStill_nil ?_
     change wpList _ _ _ _ _ wr.drew;go_wp2
     have HOn := Veil.mk (Hown.out.drew.set k (by rw [List.length_map]; have := Hal.out; omega) (Ah (x + y)))
     have HBn := Veil.mk ((He HB.out 1).setCell (p := ⟨gv, k, none⟩) hbg (Ah (x + y)));go_roundw
     case rel => exact ⟨k + 1, by omega, by go_num, ⟨by rw [Hset.out, List.map_set]; exact HOn.out⟩, HBn⟩
     case measure => simp [intOf]; omega
    ·have hk8 : 8 ≤ k := by omega
     have hfin : (FD s.list st.list k).map Ah = (Fu st l).cells := by
      obtain rfl : k = 8 := by omega
      rw [Hm.out, Zev]
     have Hf := Veil.mk hfin; clear hfin;clear hlt;go_wp2
     go_ret
     exact ⟨_, rfl, by rw [← Hf.out]; exact Hown.out, HB.out⟩
end
section
open Go.RowKit Sm
set_option maxRecDepth 100000 in
set_option maxHeartbeats 2000000 in
theorem Y5 (s : ByteArray) (w : World) (hs : s.size ≤ 70368744177664) :
  Calls Tryz.prog 118 #[.string s] w fun e w' => e = .returned (.string ⟨(sha s.data.toList).toArray⟩) ∧ Below w.heap.size w w' := by
 have hm : s.size ≤ maxLen := by unfold maxLen; omega
 go_enter Tryz.func118, Tryz.ntmps118
 go_wp2_with (first
  | (refine U9 w rfl _ _ (.tmp 10) rfl 5 s rfl Tryz.underlying9 Tryz.underlying163 Tryz.underlying5 hm (base := w.heap.size) (Nat.le_refl _) ?_; intro v0 w0 own0 gr0 hx; clear hx)
  | (at_builtin; refine Hp w0 rfl _ _ _ rfl F1 [.int .u8 128] own0 rfl rfl ?_ ?_ ?_ ?_ ?_; rotate_left 4; intro v1 w1 own1 gr1))
 rotate_left 1
 ·exact Gl rfl
 ·simp; omega
 ·simp; omega
 ·exact gr0.size
 have hb1 : Below w.heap.size w w1 := FC ((Below.refl _ _).grown gr0 (Nat.le_refl _) (fun k hk => by cases hk)) gr1 own0 (Nat.le_refl _) gr0.size
 have own1' : Ap w1 w.heap.size 5 1 v1 ((CE s.data.toList 0).map w8) := by
  rw [show ((CE s.data.toList 0).map w8) = s.data.toList.map w8 ++ [.int .u8 128] from by simp [CE]; rfl]
  exact own1
 clear own0 gr0 gr1 own1;have hl : s.data.toList.length = s.size := by simp
 generalize hs0 : s.data.toList = l at own1' hl ⊢;have Hl := Veil.mk hl;have Hs0 := Veil.mk hs0;clear hl hs0;go_loopw [3] (fun v wr => ∃ (N z : Nat) (A : Option Addr) (c : Nat), v = .slice A N c ∧ Veil (N = l.length + 1 + z) ∧ z ≤ Bw (l.length + 1) ∧ Ap wr w.heap.size 5 1 (.slice A N c) ((CE l z).map w8) ∧ Below w.heap.size w wr) (fun v _ => l.length + 1 + Bw (l.length + 1) - lenOf v)
 case atStart =>
  obtain ⟨A, c, rfl⟩ := own1'.len1;exact ⟨_, 0, A, c, rfl, ⟨by rw [List.length_map, Fb]⟩, Nat.zero_le _, own1', hb1⟩
 case round =>
  obtain ⟨N, z, A, c, rfl, HN, hz, hown, hb⟩ := hrel;have hzl := NM (l.length + 1);have hNs : N ≤ 70368744177964 := by have := HN.out; have := Hl.out; omega
  have hmod : ((N : Int) % 64 != 56) = decide (z < Bw (l.length + 1)) := by
   have h1 := NN (l.length + 1);have h2 := Qi (l.length + 1) z;rw [HN.out];by_cases hlt : z < Bw (l.length + 1)
   ·have := h2 hlt
    simp only [hlt, decide_true, bne_iff_ne];omega
   ·obtain rfl : z = Bw (l.length + 1) := by omega
    simp only [hlt, decide_false, bne_eq_false_iff_eq];omega
  have hle := hb.size;by_cases hlt : z < Bw (l.length + 1)
  ·have ht : ((N : Int) % 64 != 56) = true := by rw [hmod]; simpa using hlt
   clear hmod;go_wp2_with (at_builtin; refine Hp wr rfl _ _ _ rfl F1 [.int .u8 0] hown rfl rfl ?_ ?_ ?_ hle ?_; rotate_left 3; intro v' w' own' gr')
   rotate_left 1
   ·exact Gl rfl
   ·rw [List.length_map, Fb, ← HN.out]; simp; omega
   ·rw [List.length_map, Fb, ← HN.out]; simp; omega
   have hb' := FC hb gr' hown (Nat.le_refl _) hle;have own2 : Ap w' w.heap.size 5 1 v' ((CE l (z + 1)).map w8) := by rw [Ul, List.map_append]; exact own'
   clear own' gr' hown hb;go_wp2
   go_roundw
   obtain ⟨A', c', rfl⟩ := own2.len1;case rel => exact ⟨_, z + 1, A', c', rfl, ⟨by rw [List.length_map, Fb]⟩, by omega, own2, hb'⟩
   case measure =>
    obtain ⟨A', c', rfl⟩ := own2.len1;simp only [lenOf, List.length_map, Fb];have := HN.out;omega
  ·have ht : ((N : Int) % 64 != 56) = false := by rw [hmod]; simpa using hlt
   obtain rfl : z = Bw (l.length + 1) := by omega
   clear hmod;go_wp2
   generalize hX : 8#64 * BitVec.ofNat 64 s.size = X;have HX : Veil (X = BitVec.ofInt 64 (l.length : Int) * 8#64) := ⟨by rw [← hX, Hl.out, BitVec.mul_comm, BitVec.ofInt_natCast]⟩
   clear hX;go_loopw [3, 5] (fun v i wr => ∃ (M j : Nat) (A : Option Addr) (c : Nat), v = .slice A M c ∧ j ≤ 8 ∧ i = .int .i64 (56 - 8 * (j : Int)) ∧ Ap wr w.heap.size 5 1 (.slice A M c) ((CE l (Bw (l.length + 1)) ++ Ef X j).map w8) ∧ Below w.heap.size w wr) (fun _ i _ => (intOf i + 8).toNat)
   case atStart => exact ⟨N, 0, A, c, rfl, by omega, rfl, by simpa [Ef] using hown, hb⟩
   case round =>
    clear hown hb hle;obtain ⟨M, j, A', c', rfl, hj, rfl, hown, hb⟩ := hrel;have hle := hb.size;have hlen : (CE l (Bw (l.length + 1)) ++ Ef X j).length ≤ 70368744177964 := by
     rw [List.length_append, Fb]
     have : (Ef X j).length ≤ 8 := by simp [Ef, Ly]; omega
     have := Hl.out;omega
    by_cases hlt : j < 8
    ·have hge : (0 : Int) ≤ 56 - 8 * (j : Int) := by omega
     go_wp2_with (at_builtin; refine Hp wr rfl _ _ _ rfl F1 [_] hown rfl rfl ?_ ?_ ?_ hle ?_; rotate_left 3; intro v' w' own' gr')
     rotate_left 1
     ·exact Gl rfl
     iterate 2
      ·rw [List.length_map]; simp only [List.length_singleton]; omega
     have hb' := FC hb gr' hown (Nat.le_refl _) hle;have own2 : Ap w' w.heap.size 5 1 v' ((CE l (Bw (l.length + 1)) ++ Ef X (j + 1)).map w8) := by
      rw [VA _ _ hlt, ← List.append_assoc, List.map_append]; exact own'
     clear own' gr' hown hb;obtain ⟨A2, c2, rfl⟩ := own2.len1;go_wp2
     go_roundw
     case rel => exact ⟨_, j + 1, A2, c2, rfl, by omega, by go_num, own2, hb'⟩
     case measure => simp [intOf]; omega
    ·have hj8 : 8 ≤ j := by omega
     have hP : CE l (Bw (l.length + 1)) ++ Ef X j = E1 l := by
      obtain rfl : j = 8 := by omega
      rw [HX.out];rfl
     rw [hP] at hown hlen;have hPl : (E1 l).length % 64 = 0 := Uk l l.length;have hP0 : 0 < (E1 l).length := by unfold E1; rw [PG]; omega
     have hst := Zad l;generalize E1 l = P at hown hlen hPl hP0 hst;have Hst := Veil.mk hst; clear hst hP;obtain ⟨gp, cp, hv, hcp, hbp, hgp, hcellp⟩ := hown.form (by rw [List.length_map]; exact hP0)
     rw [hv] at hown ⊢;clear hv;rw [List.length_map] at hcp hown ⊢;have HP := Veil.mk hcellp; clear hcellp;have hneg : ¬ (0 : Int) ≤ 56 - 8 * (j : Int) := by omega
     go_wp2_with (go_at_call 194; refine (Zv _).mono ?_; rintro e w2 ⟨vh, rfl, ownh, hb2⟩)
     have hbB := Veil.mk (hb.trans (hb2.mono hle));have hownh := Veil.mk (ownh.less hle);have Hown2 := Veil.mk (hown.below hb2 (Nat.le_refl _));have hs2 := hb2.size;clear hown hb ownh hb2 HP;go_loopw [6, 7] (fun v i wr => ∃ (m gh ch : Nat), v = .slice (some ⟨gh, 0, none⟩) 8 ch ∧ 64 * m ≤ P.length ∧ i = .int .i64 (64 * (m : Int)) ∧ Veil (Ap wr w.heap.size 172 1 (.slice (some ⟨gh, 0, none⟩) 8 ch) ((Bo P BA m).list.map Ah)) ∧ Veil (Ap wr w.heap.size 5 1 (.slice (some ⟨gp, 0, none⟩) P.length cp) (P.map w8)) ∧ Veil (Below w.heap.size w wr)) (fun _ i _ => P.length - (intOf i).toNat)
     case atStart =>
      obtain ⟨gh, ch, hv, _⟩ := hownh.out.form (by show 0 < 8; omega)
      subst hv;exact ⟨0, gh, ch, rfl, by omega, rfl, hownh, Hown2, hbB⟩
     case round =>
      clear hownh Hown2 hbB hle hs2 hgp hbp;obtain ⟨m, gh, ch, rfl, hm, rfl, Hown, HownP, HB⟩ := hrel;have hle := HB.out.size;obtain ⟨gh', ch', hv, hch, hbh, hgh, hcellh⟩ := Hown.out.form (by rw [List.length_map, Iq]; omega)
      obtain ⟨rfl, rfl⟩ : gh = gh' ∧ ch = ch' := by
       simp only [Value.slice.injEq, Option.some.injEq, Addr.mk.injEq] at hv;exact ⟨hv.1.1, hv.2.2⟩
      clear hv;rw [List.length_map, Iq] at hch;have CH := Veil.mk (Lv hcellh); clear hcellh;by_cases hlt : 64 * m < P.length
      ·have h64 : 64 * m + 64 ≤ P.length := by omega
       obtain ⟨gp', cp', hv, _, hbp, hgp, hcellp⟩ := HownP.out.form (by rw [List.length_map]; exact hP0)
       obtain ⟨rfl, rfl⟩ : gp = gp' ∧ cp = cp' := by
        simp only [Value.slice.injEq, Option.some.injEq, Addr.mk.injEq] at hv;exact ⟨hv.1.1, hv.2.2⟩
       clear hv;have CP : Veil (∀ j, j < 64 → wr.cell? ⟨gp, 64 * m + j, none⟩ = some (w8 (((P.drop (64 * m)).take 64).getD j 0))) := ⟨fun j hj => hcellp _ _ (by
        rw [List.getElem?_map, List.getElem?_eq_getElem (by omega), List.getD_eq_getElem?_getD, List.getElem?_take_of_lt hj, List.getElem?_drop, List.getElem?_eq_getElem (by omega)]; rfl)⟩
       clear hcellp;have hbl : ((P.drop (64 * m)).take 64).length = 64 := by rw [List.length_take, List.length_drop]; omega
       have Hbl := Veil.mk hbl; clear hbl;have hcap : 64 * m < cp := by omega
       have hcap1 : (64 : Int) * (m : Int) < cp := by omega
       have hcap2 : (64 : Int) * (m : Int) + 64 ≤ cp := by omega
       have hcap3 : ¬ (cp = 64 * m) := by omega
       have hcap4 : 64 ≤ cp - 64 * m := by omega
       go_wp2_with (go_at_call 195; go_loud (refine (Zk (Bo P BA m) gh ch gp (64 * m) (cp - 64 * m) ((P.drop (64 * m)).take 64) _ CH.out hgh hch CP.out Hbl.out hcap4 hgp).mono ?_); rintro e w' ⟨v', rfl, ownv, hb'⟩)
       have hab : Bo P BA (m + 1) = Fu (Bo P BA m) ((P.drop (64 * m)).take 64) := rfl;have Hab := Veil.mk hab; clear hab;have ownv2 : Veil (Ap w' w.heap.size 172 1 v' ((Bo P BA (m + 1)).list.map Ah)) := ⟨by rw [Hab.out]; exact ownv.less hle⟩
       have HownP2 := Veil.mk (HownP.out.below hb' (Nat.le_refl _));have HB2 := Veil.mk (HB.out.trans (hb'.mono hle));clear ownv hb' Hown HownP HB CP CH;obtain ⟨gh2, ch2, hv, _⟩ := ownv2.out.form (by rw [List.length_map, Iq]; omega)
       subst hv;go_roundw
       case rel => exact ⟨m + 1, gh2, ch2, rfl, by omega, by go_num, ownv2, HownP2, HB2⟩
       case measure => simp [intOf]; omega
      ·have hm64 : ¬ (64 : Int) * (m : Int) < P.length := by omega
       have hfin : Jd l = Bo P BA m := by
        rw [← Hst.out];congr 1
        omega
       have Hfin := Veil.mk hfin; clear hfin;generalize Bo P BA m = st at Hfin CH Hown;clear HownP;go_wp2
       go_loopw [8, 9] (fun v i wx => ∃ k : Nat, k ≤ 32 ∧ i = .int .i64 k ∧ Ap wx wr.heap.size 5 1 v ((FP st k).map w8) ∧ Below wr.heap.size wr wx) (fun _ i _ => 32 - (intOf i).toNat)
       case atStart => exact ⟨0, by omega, rfl, Ap.nil _ _ _ _, Below.refl _ _⟩
       case round =>
        obtain ⟨k, hk, rfl, hown, hb⟩ := hrel;have hle := hb.size;by_cases hlt : k < 32
        ·have ch4 := (hb.cell (p := ⟨gh, k / 4, none⟩) hgh).trans (CH.out (k / 4) (by rw [Iq]; omega))
         have hsn := Zaf st k;generalize st.list.getD (k / 4) 0 = x at ch4 hsn;have Hsn := Veil.mk hsn; clear hsn;have q0 : 0 ≤ (k : Int) / 4 := by omega
         have q1 : (k : Int) / 4 < 8 := by omega
         have q2 : ((k : Int) / 4).toNat = k / 4 := by omega
         have q3 : 8 * ((k : Int) % 4) ≤ 24 := by omega
         have q4 : (24 - 8 * ((k : Int) % 4)).toNat = 24 - 8 * (k % 4) := by omega
         have Hlen := Veil.mk (Zag st k);go_wp2_with (at_builtin; refine Hp wr rfl _ _ _ rfl F1 [_] hown rfl rfl ?_ ?_ ?_ hle ?_; rotate_left 3; intro v' w' own' gr')
         rotate_left 1
         ·exact Gl rfl
         iterate 2
          ·rw [List.length_map, Hlen.out]; simp only [List.length_singleton]; omega
         have own2 := own';rw [show ∀ y, (FP st k).map w8 ++ [w8 y] = ((FP st k) ++ [y]).map w8 from fun y => by rw [List.map_append]; rfl, ← Hsn.out] at own2
         have hb' := FC hb gr' hown (Nat.le_refl _) hle;clear own' gr' hown hb q0 q1 q2 q3 q4;go_roundw
         case rel => exact ⟨k + 1, by omega, by go_num, own2, hb'⟩
         case measure => simp [intOf]; omega
        ·obtain rfl : k = 32 := by omega
         have hc := L7 (P := Tryz.prog) wr 163 9 5 Tryz.underlying163 Tryz.underlying5 Tryz.underlying9 hown.rd;have hfin : (FP st 32) = sha l := by rw [Zah, sha, Hfin.out]
         have Hfin2 := Veil.mk hfin; clear hfin;have HBf := Veil.mk (HB.out.trans (hb.mono HB.out.size));go_wp2
         go_ret
         exact ⟨by rw [Hs0.out, ← Hfin2.out]; rfl, HBf.out⟩
end
end
section
namespace Pe
open Tryz
open Go Go.RowKit Sm
instance tabs : Tab := ⟨fun b i => if b = 1 ∧ i < 64 then some (Ah (Ej.getD i 0)) else if b = 0 ∧ i < 8 then some (Ah (BA.list.getD i 0)) else none⟩
theorem C6.of {w : World} {g : Gh} (h : JL w g) : C6 w := by
 refine ⟨fun i hi => (h 1 i _ ?_).2, fun i hi => (h 0 i _ ?_).2⟩
 ·show (if _ then _ else _) = _
  rw [if_pos ⟨rfl, hi⟩]
 ·show (if _ then _ else _) = _
  rw [if_neg (fun e => absurd e.1 (by decide)), if_pos ⟨rfl, hi⟩]
theorem Jc (l : List UInt8) (h : l.length ≤ 70368744177664) : AC prog 61 [.st l] [] (.st (sha l)) [] := by
 refine AC.ofBelow (by kernel_rfl) fun w g cargs ht hargs => ?_
 rw [KX hargs];refine (YB ⟨l.toArray⟩ w (by simp [ByteArray.size]; omega) (C6.of ht)).mono ?_
 rintro r w' ⟨rfl, hb⟩
 refine ⟨_, rfl, fun g' => ?_, hb⟩
 exact .st g' _
theorem FN (l : List UInt8) (h : l.length ≤ 70368744177664) : AC prog 118 [.st l] [] (.st (sha l)) [] := by
 refine AC.ofBelow (by kernel_rfl) fun w g cargs ht hargs => ?_
 rw [KX hargs];refine (Y5 ⟨l.toArray⟩ w (by simp [ByteArray.size]; omega)).mono ?_
 rintro r w' ⟨rfl, hb⟩
 refine ⟨_, rfl, fun g' => ?_, hb⟩
 exact .st g' _
end Pe
end
end Go.Proofs.YtiidnoejnphocaaGreatDoor
namespace Go.Proofs
open Go.Shelf
def Tryz.lays156_ren : Go.Shelf.Ren := ⟨fun | 156 => 312 | 165 => 332 | 166 => 333 | 169 => 334 | 240 => 343 | 241 => 344 | 276 => 358 | 277 => 359 | n => n, fun | 31 => 38 | 9 => 9 | 3 => 3 | 4 => 4 | 0 => 0 | 20 => 20 | 72 => 312 | 76 => 316 | 70 => 310 | 37 => 163 | 75 => 315 | 127 => 330 | 164 => 340 | 5 => 5 | 80 => 318 | n => n, fun | n => n⟩
theorem Tryz.lays156 : Go.Proofs.Lays.n156 Tryz.prog Tryz.lays156_ren := {
  mixed := by kernel_rfl
  f156 := Tryz.func312.trans (congrArg some (by kernel_rfl))
  f165 := Tryz.func332.trans (congrArg some (by kernel_rfl))
  f166 := Tryz.func333.trans (congrArg some (by kernel_rfl))
  f169 := Tryz.func334.trans (congrArg some (by kernel_rfl))
  f240 := Tryz.func343.trans (congrArg some (by kernel_rfl))
  f241 := Tryz.func344.trans (congrArg some (by kernel_rfl))
  f276 := Tryz.func358.trans (congrArg some (by kernel_rfl))
  f277 := Tryz.func359.trans (congrArg some (by kernel_rfl))
  t0 := Tryz.underlying0
  a0 := Tryz.isAgg0
  z0 := Tryz.sizeOf0
  v0 := Tryz.zeroValue0
  t3 := Tryz.underlying3
  a3 := Tryz.isAgg3
  z3 := Tryz.sizeOf3
  v3 := Tryz.zeroValue3
  t4 := Tryz.underlying4
  a4 := Tryz.isAgg4
  z4 := Tryz.sizeOf4
  v4 := Tryz.zeroValue4
  t9 := Tryz.underlying9
  a9 := Tryz.isAgg9
  z9 := Tryz.sizeOf9
  v9 := Tryz.zeroValue9
  t20 := Tryz.underlying20
  a20 := Tryz.isAgg20
  z20 := Tryz.sizeOf20
  v20 := Tryz.zeroValue20
  t31 := Tryz.underlying38
  a31 := Tryz.isAgg38
  z31 := Tryz.sizeOf38
  v31 := Tryz.zeroValue38
  t37 := Tryz.underlying163
  a37 := Tryz.isAgg163
  z37 := Tryz.sizeOf163
  v37 := Tryz.zeroValue163
  t70 := Tryz.underlying310
  a70 := Tryz.isAgg310
  z70 := Tryz.sizeOf310
  v70 := Tryz.zeroValue310
  t72 := Tryz.underlying312
  a72 := Tryz.isAgg312
  z72 := Tryz.sizeOf312
  v72 := Tryz.zeroValue312
  t75 := Tryz.underlying315
  a75 := Tryz.isAgg315
  z75 := Tryz.sizeOf315
  v75 := Tryz.zeroValue315
  t76 := Tryz.underlying316
  a76 := Tryz.isAgg316
  z76 := Tryz.sizeOf316
  v76 := Tryz.zeroValue316
  t127 := Tryz.underlying330
  a127 := Tryz.isAgg330
  z127 := Tryz.sizeOf330
  v127 := Tryz.zeroValue330
  t164 := Tryz.underlying340
  a164 := Tryz.isAgg340
  z164 := Tryz.sizeOf340
  v164 := Tryz.zeroValue340 }
theorem Tryz.Builder_Extra_156 : Builder.Extra Tryz.prog Tryz.lays156_ren := {
  sizeBuilder := by kernel_rfl
  liesBuilder := by kernel_rfl
  t5 := Tryz.underlying5
  a5 := Tryz.isAgg5
  z5 := Tryz.sizeOf5
  v5 := Tryz.zeroValue5
  infoByte := by kernel_rfl
  cellsByte := by kernel_rfl
  sizeByte := by kernel_rfl
  neB5 := by decide }
open Go.RowKit in
theorem Tryz.strings_Join (bk o c : Nat) (xs : List ByteArray) (sep : ByteArray) (w : World) (hcells : ∀ (j : Nat) x, xs[j]? = some x → w.cell? ⟨bk, o + j, none⟩ = some (.string x)) (hbk : bk < w.heap.size) (hN : xs.length ≤ 140737488355328) (hcap : xs.length ≤ c) (hlen : (Lib.join (xs.map (·.data.toList)) sep.data.toList).length ≤ 140737488355328) :
    Calls Tryz.prog 312 #[.slice (some ⟨bk, o, none⟩) xs.length c, .string sep] w fun e w' => e = .returned (.string ⟨(Lib.join (xs.map (·.data.toList)) sep.data.toList).toArray⟩) ∧ Below w.heap.size w w' := Any.strings_Join Tryz.lays156 Tryz.Builder_Extra_156 bk o c xs sep w hcells hbk hN hcap hlen
end Go.Proofs
namespace Go.Proofs.YtiidnoejnphocaaGreatDoor
section
namespace Pe
open Tryz
open Go
variable [Tab]
set_option maxRecDepth 100000
theorem Bf {n : Int} : IntKind.u64.wrap n = n % 18446744073709551616 := rfl
theorem Dx {n : Nat} (h : n < 18446744073709551616) : IntKind.u64.wrap (n : Int) = (n : Int) := by rw [Bf]; omega
theorem bits_nat (op : BinOp) (f : Nat → Nat → Nat) (hop : (op = .and ∧ f = Nat.land) ∨ (op = .or ∧ f = Nat.lor)) (a b : Nat) (ha : a < 18446744073709551616) (hb : b < 18446744073709551616) (k : IntKind) (hk : k = .u64 ∨ k = .i64) :
  Go.bits op k (a : Int) (b : Int) = k.wrap ((f a b : Nat) : Int) := by
 have h1 : (BitVec.ofInt 64 (a : Int)).toNat = a := by rw [BitVec.ofInt_natCast, BitVec.toNat_ofNat]; exact Nat.mod_eq_of_lt ha
 have h2 : (BitVec.ofInt 64 (b : Int)).toNat = b := by rw [BitVec.ofInt_natCast, BitVec.toNat_ofNat]; exact Nat.mod_eq_of_lt hb
 rcases hop with ⟨rfl, rfl⟩ | ⟨rfl, rfl⟩ <;> rcases hk with rfl | rfl
 ·show IntKind.u64.wrap ((BitVec.ofInt 64 (a : Int) &&& BitVec.ofInt 64 (b : Int)).toNat : Int) = _
  rw [BitVec.toNat_and, h1, h2]; rfl
 ·show IntKind.i64.wrap ((BitVec.ofInt 64 (a : Int) &&& BitVec.ofInt 64 (b : Int)).toNat : Int) = _
  rw [BitVec.toNat_and, h1, h2]; rfl
 ·show IntKind.u64.wrap ((BitVec.ofInt 64 (a : Int) ||| BitVec.ofInt 64 (b : Int)).toNat : Int) = _
  rw [BitVec.toNat_or, h1, h2]; rfl
 ·show IntKind.i64.wrap ((BitVec.ofInt 64 (a : Int) ||| BitVec.ofInt 64 (b : Int)).toNat : Int) = _
  rw [BitVec.toNat_or, h1, h2]; rfl
theorem LC (a : Nat) (ha : a < 18446744073709551616) : Go.bits .and .u64 (a : Int) 4294967295 = ((a % 4294967296 : Nat) : Int) := by
 have := bits_nat .and Nat.land (.inl ⟨rfl, rfl⟩) a 4294967295 ha (by omega) .u64 (.inl rfl)
 have e : Nat.land a 4294967295 = a % 4294967296 := Nat.and_two_pow_sub_one_eq_mod a 32;rw [e] at this;exact this.trans (Dx (by omega))
theorem Zeo (a : Nat) (ha : a < 9223372036854775808) : Go.bits .and .i64 (a : Int) 1 = ((a % 2 : Nat) : Int) := by
 have := bits_nat .and Nat.land (.inl ⟨rfl, rfl⟩) a 1 (by omega) (by omega) .i64 (.inr rfl)
 have e : Nat.land a 1 = a % 2 := Nat.and_two_pow_sub_one_eq_mod a 1;rw [e] at this;exact this.trans (wrap64 (by omega) (by omega))
theorem Zai (c a j : Nat) (ha : a < 2 ^ j) (h : c * 2 ^ j + a < 18446744073709551616) : Go.bits .or .u64 ((c * 2 ^ j : Nat) : Int) (a : Int) = ((c * 2 ^ j + a : Nat) : Int) := by
 have := bits_nat .or Nat.lor (.inr ⟨rfl, rfl⟩) (c * 2 ^ j) a (by omega) (by omega) .u64 (.inl rfl)
 have e : Nat.lor (c * 2 ^ j) a = c * 2 ^ j + a := by
  show c * 2 ^ j ||| a = _
  rw [Nat.mul_comm, ← Nat.two_pow_add_eq_or_of_lt ha]
 rw [e] at this;exact this.trans (Dx h)
theorem KB (n : Nat) (b : Int) (s : Nat) (h : b = (s : Int)) (h' : s ≤ 64) : IM .u64 (n : Int) b = some (.it .u64 ((n * 2 ^ s % 18446744073709551616 : Nat) : Int)) := by
 subst h;unfold IM;rw [if_pos (by omega)]
 congr 2
 rw [Int.toNat_natCast, show min s IntKind.u64.bits = s from Nat.min_eq_left h']
 rw [show ((n : Int) * 2 ^ s) = ((n * 2 ^ s : Nat) : Int) from by push_cast; rfl, Bf]
 omega
theorem ZaC (x0 x1 y0 y1 : Nat) : (x1 * 4294967296 + x0) * (y1 * 4294967296 + y0) = x1 * y1 * 18446744073709551616 + (x1 * y0 + x0 * y1) * 4294967296 + x0 * y0 := by
 grind
theorem ZaE (a b : Nat) (ha : a < 2305843009213693952) (hb : b < 2305843009213693952) : AC prog 309 [.it .u64 a, .it .u64 b] [] (.tup [.it .u64 ((a * b / 18446744073709551616 : Nat) : Int), .it .u64 ((a * b % 18446744073709551616 : Nat) : Int)]) [] := by
 refine AC.enter [] [] func309 rfl (by decide) (by decide) (Nat.le_of_ble_eq_true rfl) (by kernel_rfl) ?_; refine An ?_
 have hx0 := LC a (by omega)
 have hy0 := LC b (by omega)
 have hx1 := Dy a 32 32 rfl (by omega)
 have hy1 := Dy b 32 32 rfl (by omega)
 rw [show (2 : Nat) ^ 32 = 4294967296 from rfl] at hx1 hy1
 have hab : a * b = a / 4294967296 * (b / 4294967296) * 18446744073709551616 + (a / 4294967296 * (b % 4294967296) + a % 4294967296 * (b / 4294967296)) * 4294967296 + a % 4294967296 * (b % 4294967296) := by
  rw [← ZaC, Nat.div_add_mod', Nat.div_add_mod']
 have b0 : a % 4294967296 ≤ 4294967295 := by omega
 have b1 : a / 4294967296 ≤ 536870911 := by omega
 have b2 : b % 4294967296 ≤ 4294967295 := by omega
 have b3 : b / 4294967296 ≤ 536870911 := by omega
 have habI : IntKind.u64.wrap ((a : Int) * (b : Int)) = ((a * b % 18446744073709551616 : Nat) : Int) := by
  rw [show (a : Int) * (b : Int) = ((a * b : Nat) : Int) from by push_cast; rfl, Bf]; omega
 generalize a % 4294967296 = x0 at *;generalize a / 4294967296 = x1 at *;generalize b % 4294967296 = y0 at *;generalize b / 4294967296 = y1 at *;have p00 : x0 * y0 ≤ 4294967295 * 4294967295 := Nat.mul_le_mul b0 b2;have p10 : x1 * y0 ≤ 536870911 * 4294967295 := Nat.mul_le_mul b1 b2;have p01 : x0 * y1 ≤ 4294967295 * 536870911 := Nat.mul_le_mul b0 b3;have p11 : x1 * y1 ≤ 536870911 * 536870911 := Nat.mul_le_mul b1 b3;have c00 : ((x0 : Int) * (y0 : Int)) = ((x0 * y0 : Nat) : Int) := by push_cast; rfl
 have c10 : ((x1 : Int) * (y0 : Int)) = ((x1 * y0 : Nat) : Int) := by push_cast; rfl
 have c01 : ((x0 : Int) * (y1 : Int)) = ((x0 * y1 : Nat) : Int) := by push_cast; rfl
 have c11 : ((x1 : Int) * (y1 : Int)) = ((x1 * y1 : Nat) : Int) := by push_cast; rfl
 generalize a * b = ab at *;generalize x0 * y0 = q00 at *;generalize x1 * y0 = q10 at *;generalize x0 * y1 = q01 at *;generalize x1 * y1 = q11 at *;have w00 : IntKind.u64.wrap (q00 : Int) = (q00 : Int) := Dx (by omega)
 have w10 : IntKind.u64.wrap (q10 : Int) = (q10 : Int) := Dx (by omega)
 have w01 : IntKind.u64.wrap (q01 : Int) = (q01 : Int) := Dx (by omega)
 have w11 : IntKind.u64.wrap (q11 : Int) = (q11 : Int) := Dx (by omega)
 have s00 := Dy q00 32 32 rfl (by omega)
 rw [show (2 : Nat) ^ 32 = 4294967296 from rfl] at s00
 obtain ⟨t, et⟩ : ∃ t, t = q10 + q00 / 4294967296 := ⟨_, rfl⟩
 have wt : IntKind.u64.wrap ((q10 : Int) + ((q00 / 4294967296 : Nat) : Int)) = (t : Int) := by rw [Bf]; omega
 have st := Dy t 32 32 rfl (by omega)
 rw [show (2 : Nat) ^ 32 = 4294967296 from rfl] at st
 have mt := LC t (by omega)
 obtain ⟨u, eu⟩ : ∃ u, u = t % 4294967296 + q01 := ⟨_, rfl⟩
 have wu : IntKind.u64.wrap (((t % 4294967296 : Nat) : Int) + (q01 : Int)) = (u : Int) := by rw [Bf]; omega
 have su := Dy u 32 32 rfl (by omega)
 rw [show (2 : Nat) ^ 32 = 4294967296 from rfl] at su
 have wv : IntKind.u64.wrap ((q11 : Int) + ((t / 4294967296 : Nat) : Int)) = (q11 : Int) + ((t / 4294967296 : Nat) : Int) := by rw [Bf]; omega
 have wz : IntKind.u64.wrap ((q11 : Int) + ((t / 4294967296 : Nat) : Int) + ((u / 4294967296 : Nat) : Int)) = ((ab / 18446744073709551616 : Nat) : Int) := by rw [Bf]; omega
 refine Aa (an @hx0 (an @hy0 (an @hx1 (an @hy1 (an @c00 (an @c10 (an @c01 (an @c11 (an @w00 (an @w10 (Aw @w01 @w11 @s00 @wt @st @mt @wu @su @wv @wz @habI))))))))))) ?_;exact Ab
structure Hv (p : Prop) : Prop where
 out : p
theorem ZcQ (u q1 r1 : Nat) (hub : u < 2305843009213693952) (eq1 : u = q1 * 4294967295 + r1) : q1 ≤ 536870913 := by omega
theorem Uq (q2 q : Nat) (h : q2 ≤ 536870913) (h' : q ≤ 4294967296) : IntKind.u64.wrap (IntKind.u64.wrap ((q2 : Int) * 4294967296) + (q : Int)) = ((q2 * 4294967296 + q : Nat) : Int) := by rw [Bf, Bf]; omega
theorem ZcS (u q1 r1 : Nat) (hub : u < 2305843009213693952) (eq1 : u = q1 * 4294967295 + r1) (hr1 : r1 < 4294967295) : IntKind.u64.wrap ((u : Int).tdiv 4294967295) = (q1 : Int) := by rw [Int.tdiv_eq_ediv_of_nonneg (by omega), Bf]; omega
theorem Uw (u q1 r1 : Nat) (hub : u < 18446744073709551616) (eq1 : u = q1 * 4294967295 + r1) (hr1 : r1 < 4294967295) : IntKind.u64.wrap ((u : Int) - IntKind.u64.wrap ((q1 : Int) * 4294967295)) = (r1 : Int) := by rw [Bf, Bf]; omega
theorem ZcR (u q1 r1 : Nat) (hub : u < 18446744073709551616) (eq1 : u = q1 * 4294967295 + r1) (hr1 : r1 < 4294967295) : IntKind.u64.wrap ((u : Int).tdiv 4294967295) = (q1 : Int) := by rw [Int.tdiv_eq_ediv_of_nonneg (by omega), Bf]; omega
theorem Za5 (n : Nat) (h : n < 18446744073709551616) (hb : AU n ≤ 64) : AC prog 342 [.it .u64 n] [] (.it .i64 (64 - (AU n : Int))) [] := by
 refine AC.enter [184] [] func342 rfl (by decide) (by decide) (Nat.le_of_ble_eq_true rfl) (by kernel_rfl) ?_; refine An ?_
 refine run ?_;refine cp (MR n h) ?_;refine run ?_;exact Ab
theorem Uv (u q1 r1 a1 : Nat) (eq1 : u = q1 * 4294967295 + r1) (hr1 : r1 < 4294967295) (ha : a1 < 4294967296) : u * 4294967296 + a1 < (q1 + 1) * 18446744073709551608 := by omega
theorem Lr (u q r a1 : Nat) (e0 : u = q * 4294967295 + r) (hc : 4294967296 * r + a1 < q * 4294967288) : u * 4294967296 + a1 < (q - 1 + 1) * 18446744073709551608 ∧ u = (q - 1) * 4294967295 + (r + 4294967295) := by omega
theorem Uu (u q r a1 : Nat) (e0 : u = q * 4294967295 + r) (hc : ¬ 4294967296 * r + a1 < q * 4294967288) : q * 18446744073709551608 ≤ u * 4294967296 + a1 := by omega
theorem Ut (u q r a1 : Nat) (e0 : u = q * 4294967295 + r) (hq : q < 4294967297) (hbr : ¬ r + 4294967295 < 4294967296) : (q - 1) * 18446744073709551608 ≤ u * 4294967296 + a1 := by omega
theorem Us (u v D q2 a1 a0 t w q : Nat) (hu : u * 18446744073709551616 + t = 8 * D) (ht : t = a1 * 4294967296 + a0) (ev : v = u * 4294967296 + a1 - q2 * 18446744073709551608) (hq : q2 * 18446744073709551608 ≤ u * 4294967296 + a1) (ew : w = v * 4294967296 + a0 - q * 18446744073709551608) (hq' : q * 18446744073709551608 ≤ v * 4294967296 + a0) : D = (q2 * 4294967296 + q) * 2305843009213693951 + w / 8 ∧ 8 * (w / 8) = w := by omega
theorem Ur (D Q w : Nat) (h : D = Q * 2305843009213693951 + w) (hw : w < 2305843009213693951) : D / 2305843009213693951 = Q ∧ D % 2305843009213693951 = w := by omega
theorem PJ (u a1 q2 v : Nat) (ev : v = u * 4294967296 + a1 - q2 * 18446744073709551608) (h : q2 * 18446744073709551608 ≤ u * 4294967296 + a1) (h' : u * 4294967296 + a1 < (q2 + 1) * 18446744073709551608) : v < 18446744073709551608 := by omega
theorem PI (u a1 q2 v : Nat) (ev : v = u * 4294967296 + a1 - q2 * 18446744073709551608) (hv : v < 18446744073709551608) (h : q2 * 18446744073709551608 ≤ u * 4294967296 + a1) : IntKind.u64.wrap (IntKind.u64.wrap (IntKind.u64.wrap ((u : Int) * 4294967296) + (a1 : Int)) - IntKind.u64.wrap ((q2 : Int) * 18446744073709551608)) = (v : Int) := by rw [Bf, Bf, Bf, Bf]; omega
theorem ZcP (v q r : Nat) (hv : v < 18446744073709551608) (e0 : v = q * 4294967295 + r) : q ≤ 4294967296 := by omega
theorem ZcO (v q r a0 : Nat) (hv : v < 18446744073709551608) (ha : a0 < 4294967296) (e0 : v = q * 4294967295 + r) (hge : 4294967296 ≤ q) : 4294967296 * r + a0 < q * 4294967288 := by omega
theorem Uo (w : Nat) (h : w < 18446744073709551608) : w / 8 < 2305843009213693951 := by omega
theorem Up (v : Nat) (h : v < 18446744073709551608) : v < 18446744073709551616 := by omega
theorem Vj : AU 2305843009213693951 = 61 := by decide +kernel
set_option maxHeartbeats 6400000 in
theorem Zdi (hi lo D : Nat) (hD : D = hi * 18446744073709551616 + lo) (hh : hi < 288230376151711744) (hl : lo < 18446744073709551616) :
  AC prog 331 [.it .u64 hi, .it .u64 lo, .it .u64 2305843009213693951] [] (.tup [.it .u64 ((D / 2305843009213693951 : Nat) : Int), .it .u64 ((D % 2305843009213693951 : Nat) : Int)]) [] := by
 refine AC.enter [342] [] func331 rfl (by decide) (by decide) (Nat.le_of_ble_eq_true rfl) (by kernel_rfl) ?_; refine An ?_
 by_cases h0 : hi = 0
 ·subst h0
  have hD : D = lo := by omega
  subst hD;have e1 : IntKind.u64.wrap ((D : Int).tdiv 2305843009213693951) = ((D / 2305843009213693951 : Nat) : Int) := by rw [Int.tdiv_eq_ediv_of_nonneg (by omega), Bf]; omega
  have e2 : (D : Int).tmod 2305843009213693951 = ((D % 2305843009213693951 : Nat) : Int) := by rw [Int.tmod_eq_emod_of_nonneg (by omega)]; omega
  refine Aa (an @e1 @e2) ?_;exact Ab
 have hlead := Za5 2305843009213693951 (by omega) (by rw [Vj]; omega)
 rw [Vj] at hlead;have k1 : IntKind.u64.wrap (64 - ((61 : Nat) : Int)) = 3 := by decide +kernel
 have k2 : IntKind.u64.wrap 61 = 61 := by decide +kernel
 have k3 : IM .u64 2305843009213693951 3 = some (.it .u64 18446744073709551608) := KB 2305843009213693951 3 3 rfl (by omega)
 have k4 : F4 .u64 18446744073709551608 32 = some (.it .u64 4294967295) := Dy 18446744073709551608 32 32 rfl (by omega)
 have k5 : Go.bits .and .u64 18446744073709551608 4294967295 = 4294967288 := LC 18446744073709551608 (by omega)
 have k6 := KB hi 3 3 rfl (by omega)
 have k7 := Dy lo 61 61 rfl (by omega)
 have k8 := KB lo 3 3 rfl (by omega)
 rw [show (2 : Nat) ^ 3 = 8 from rfl, Nat.mod_eq_of_lt (by omega)] at k6
 rw [show (2 : Nat) ^ 61 = 2305843009213693952 from rfl] at k7
 rw [show (2 : Nat) ^ 3 = 8 from rfl] at k8
 have k9 := Zai hi (lo / 2305843009213693952) 3 (by omega) (by omega)
 rw [show (2 : Nat) ^ 3 = 8 from rfl] at k9
 have hu : (hi * 8 + lo / 2305843009213693952) * 18446744073709551616 + lo * 8 % 18446744073709551616 = 8 * D := by omega
 have hub : hi * 8 + lo / 2305843009213693952 < 2305843009213693952 := by omega
 have hut : lo * 8 % 18446744073709551616 < 18446744073709551616 := by omega
 generalize hi * 8 + lo / 2305843009213693952 = u at *;generalize lo * 8 % 18446744073709551616 = t at *;have hu := Hv.mk hu;clear hD;have k10 := Dy t 32 32 rfl (by omega)
 rw [show (2 : Nat) ^ 32 = 4294967296 from rfl] at k10
 have k11 := LC t hut;have ht : t = t / 4294967296 * 4294967296 + t % 4294967296 := by omega
 have ha1 : t / 4294967296 < 4294967296 := by omega
 have ha0 : t % 4294967296 < 4294967296 := by omega
 generalize t / 4294967296 = a1 at *;generalize t % 4294967296 = a0 at *;obtain ⟨q1, r1, eq1, hr1⟩ : ∃ q r, u = q * 4294967295 + r ∧ r < 4294967295 := ⟨u / 4294967295, u % 4294967295, (Nat.div_add_mod' u 4294967295).symm, Nat.mod_lt _ (by decide)⟩
 have k12 := ZcS u q1 r1 hub eq1 hr1;have k13 := Uw u q1 r1 (by omega) eq1 hr1
 refine run ?_;refine cp hlead ?_;refine Aa (an @k1 (an @k2 (Aw @k3 @k4 @k5 @k6 @k7 @k8 @k9 @k10 @k11 @k12 @k13))) ?_;refine AF (fun m e S => S = [] ∧ e 2 = .it .u64 18446744073709551608 ∧ e 8 = .it .u64 3 ∧ e 9 = .it .u64 4294967295 ∧ e 10 = .it .u64 4294967288 ∧ e 11 = .it .u64 (u : Int) ∧ e 13 = .it .u64 (a1 : Int) ∧ e 14 = .it .u64 (a0 : Int) ∧
  ∃ q r : Nat, e 15 = .it .u64 (q : Int) ∧ e 16 = .it .u64 (r : Int) ∧ u = q * 4294967295 + r ∧ q ≤ q1 ∧ r < 4294967296 ∧ u * 4294967296 + a1 < (q + 1) * 18446744073709551608 ∧ q = m) q1
  ⟨rfl, Ad, Ad, Ad, Ad, Ad, Ad, Ad, q1, r1, Ad, Ad, eq1, Nat.le_refl _, Nat.lt_succ_of_lt hr1, Uv u q1 r1 a1 eq1 hr1 ha1, rfl⟩ ?_
 clear k1 k2 k3 k4 k5 k6 k7 k8 k9 k10 k11 k12 k13 hlead;rintro m e S ⟨rfl, s2, s8, s9, s10, s11, s13, s14, q, r, s15, s16, e0, hqq, hr, hup, rfl⟩
 have c1 : IntKind.u64.wrap ((q : Int) * 4294967288) = (q : Int) * 4294967288 := by rw [Bf]; omega
 have c2 : IntKind.u64.wrap (4294967296 * (r : Int)) = 4294967296 * (r : Int) := by rw [Bf]; omega
 have c3 : IntKind.u64.wrap (4294967296 * (r : Int) + (a1 : Int)) = 4294967296 * (r : Int) + (a1 : Int) := by rw [Bf]; omega
 have hq32 : q < 4294967296 := by omega
 by_cases hc : 4294967296 * r + a1 < q * 4294967288
 focus
  have d1 : IntKind.u64.wrap ((q : Int) - 1) = ((q - 1 : Nat) : Int) := by rw [Bf]; omega
  have d2 : IntKind.u64.wrap ((r : Int) + 4294967295) = ((r + 4294967295 : Nat) : Int) := by rw [Bf]; omega
  by_cases hbr : r + 4294967295 < 4294967296
  focus
   refine Aa (an @s2 (an @s8 (an @s9 (Aw @s10 @s11 @s13 @s14 @s15 @s16 @c1 @c2 @c3 @d1 @d2)))) ?_;exact Ao (q - 1) (by omega) ⟨rfl, Ad, Ad, Ad, Ad, Ad, Ad, Ad, q - 1, r + 4294967295, Ad, Ad, (Lr _ q r _ e0 hc).2, by omega, hbr, (Lr _ q r _ e0 hc).1, rfl⟩
  refine Aa (an @s2 (an @s8 (an @s9 (Aw @s10 @s11 @s13 @s14 @s15 @s16 @c1 @c2 @c3 @d1 @d2)))) ?_;have hz : q - 1 ≤ q1 ∧ (q - 1) * 18446744073709551608 ≤ u * 4294967296 + a1 ∧ u * 4294967296 + a1 < (q - 1 + 1) * 18446744073709551608 := ⟨by omega, Ut u q r a1 e0 (by omega) hbr, (Lr u q r a1 e0 hc).1⟩
  clear hc hbr d1 d2 c1 c2 c3 hup e0 hr;generalize q - 1 = q2 at *
 rotate_left;focus
  refine Aa (an @s2 (Aw @s8 @s9 @s10 @s11 @s13 @s14 @s15 @s16 @c1 @c2 @c3)) ?_;have hz : q ≤ q1 ∧ q * 18446744073709551608 ≤ u * 4294967296 + a1 ∧ u * 4294967296 + a1 < (q + 1) * 18446744073709551608 := ⟨hqq, Uu u q r a1 e0 hc, hup⟩;clear hc c1 c2 c3 hup e0 hr;generalize q = q2 at *
 all_goals
  obtain ⟨z2, z3, z4⟩ := hz;have hq1 : q2 ≤ 536870913 := Nat.le_trans z2 (ZcQ u q1 r1 hub eq1);have ht0 := Hv.mk ht;obtain ⟨v, ev⟩ : ∃ v, v = u * 4294967296 + a1 - q2 * 18446744073709551608 := ⟨_, rfl⟩
  have hv : v < 18446744073709551608 := PJ u a1 q2 v ev z3 z4;have k1 := PI u a1 q2 v ev hv z3;obtain ⟨p1, s1, ep1, hs1⟩ : ∃ q r, v = q * 4294967295 + r ∧ r < 4294967295 := ⟨v / 4294967295, v % 4294967295, (Nat.div_add_mod' v 4294967295).symm, Nat.mod_lt _ (by decide)⟩
  have k12 := ZcR v p1 s1 (Up v hv) ep1 hs1;have k13 := Uw v p1 s1 (Up v hv) ep1 hs1;have ev := Hv.mk ev;have z3 := Hv.mk z3;clear z4 ht hub eq1 hr1 hut;have ht := ht0;refine Aa (an @s2 (Aw @s8 @s9 @s10 @s11 @s13 @s14 @s15 @s16 @k1 @k12 @k13)) ?_;refine AF (fun m e S => S = [] ∧ e 2 = .it .u64 18446744073709551608 ∧ e 8 = .it .u64 3 ∧ e 9 = .it .u64 4294967295 ∧ e 10 = .it .u64 4294967288 ∧ e 14 = .it .u64 (a0 : Int) ∧ e 15 = .it .u64 (q2 : Int) ∧ e 17 = .it .u64 (v : Int) ∧
   ∃ q r : Nat, e 18 = .it .u64 (q : Int) ∧ e 16 = .it .u64 (r : Int) ∧ v = q * 4294967295 + r ∧ q ≤ p1 ∧ r < 4294967296 ∧ v * 4294967296 + a0 < (q + 1) * 18446744073709551608 ∧ q = m) p1
   ⟨rfl, Ad, Ad, Ad, Ad, Ad, Ad, Ad, p1, s1, Ad, Ad, ep1, Nat.le_refl _, Nat.lt_succ_of_lt hs1, Uv v p1 s1 a0 ep1 hs1 ha0, rfl⟩ ?_
  clear k1 k12 k13 s2 s8 s9 s10 s11 s13 s14 s15 s16;rintro m e S ⟨rfl, s2, s8, s9, s10, s14, s15, s17, q, r, s18, s16, e0, hqq, hr, hup, rfl⟩
  have c1 : IntKind.u64.wrap ((q : Int) * 4294967288) = (q : Int) * 4294967288 := by rw [Bf]; omega
  have c2 : IntKind.u64.wrap (4294967296 * (r : Int)) = 4294967296 * (r : Int) := by rw [Bf]; omega
  have c3 : IntKind.u64.wrap (4294967296 * (r : Int) + (a0 : Int)) = 4294967296 * (r : Int) + (a0 : Int) := by rw [Bf]; omega
  have hq32 : q ≤ 4294967296 := ZcP v q r hv e0;have hgc : 4294967296 ≤ q → 4294967296 * r + a0 < q * 4294967288 := ZcO v q r a0 hv ha0 e0;by_cases hc : 4294967296 * r + a0 < q * 4294967288
  focus
   have hup1 := (Lr v q r a0 e0 hc).1;have e01 := (Lr v q r a0 e0 hc).2;have hle := Ut v q r a0 e0 (by omega)
   clear hgc hup e0;have d1 : IntKind.u64.wrap ((q : Int) - 1) = ((q - 1 : Nat) : Int) := by rw [Bf]; omega
   have d2 : IntKind.u64.wrap ((r : Int) + 4294967295) = ((r + 4294967295 : Nat) : Int) := by rw [Bf]; omega
   by_cases hbr : r + 4294967295 < 4294967296
   focus
    by_cases hge : 4294967296 ≤ q
    iterate 2
     ·refine Aa (an @s2 (an @s8 (an @s9 (Aw @s10 @s14 @s15 @s16 @s17 @s18 @c1 @c2 @c3 @d1 @d2)))) ?_
      exact Ao (q - 1) (by omega) ⟨rfl, Ad, Ad, Ad, Ad, Ad, Ad, Ad, q - 1, r + 4294967295, Ad, Ad, e01, by omega, hbr, hup1, rfl⟩
   have hle := hle hbr;have hp : q - 1 ≤ 4294967296 := Nat.le_trans (Nat.sub_le _ _) hq32;by_cases hge : 4294967296 ≤ q
   all_goals
    generalize hpq : q - 1 = p at *;obtain ⟨w, ew⟩ : ∃ w, w = v * 4294967296 + a0 - p * 18446744073709551608 := ⟨_, rfl⟩
    obtain ⟨g1, g2⟩ := Us u v D q2 a1 a0 t w p hu.out ht.out ev.out z3.out ew hle;have hw := PJ v a0 p w ew hle hup1;obtain ⟨g3, g4⟩ := Ur D _ (w / 8) g1 (Uo w hw);have f1 := Uq q2 p hq1 hp;have f2 := PI v a0 p w ew hw hle;have f3 := Dy w 3 3 rfl (by decide)
    rw [show (2 : Nat) ^ 3 = 8 from rfl] at f3
    rw [g3, g4];clear g1 g2 g3 g4 ew hw hle hup1 e01 hpq;refine Aa (an @s2 (an @s8 (an @s9 (an @s10 (an @s14 (an @s15 (Aw @s16 @s17 @s18 @c1 @c2 @c3 @d1 @d2 @f1 @f2 @f3))))))) ?_;exact Ab
  have hge : ¬ 4294967296 ≤ q := fun h => hc (hgc h)
  have hle := Uu v q r a0 e0 hc;obtain ⟨w, ew⟩ : ∃ w, w = v * 4294967296 + a0 - q * 18446744073709551608 := ⟨_, rfl⟩
  obtain ⟨g1, g2⟩ := Us u v D q2 a1 a0 t w q hu.out ht.out ev.out z3.out ew hle;have hw := PJ v a0 q w ew hle hup;obtain ⟨g3, g4⟩ := Ur D _ (w / 8) g1 (Uo w hw);have f1 := Uq q2 q hq1 hq32;have f2 := PI v a0 q w ew hw hle;have f3 := Dy w 3 3 rfl (by decide)
  rw [show (2 : Nat) ^ 3 = 8 from rfl] at f3
  rw [g3, g4];clear g1 g2 g3 g4 ew hw hle hup e0 hgc;refine Aa (an @s2 (an @s8 (an @s9 (an @s10 (Aw @s14 @s15 @s16 @s17 @s18 @c1 @c2 @c3 @f1 @f2 @f3))))) ?_;exact Ab
theorem ZA (hi lo D : Nat) (hD : D = hi * 18446744073709551616 + lo) (hh : hi < 288230376151711744) (hl : lo < 18446744073709551616) :
  AC prog 310 [.it .u64 hi, .it .u64 lo, .it .u64 2305843009213693951] [] (.it .u64 ((D % 2305843009213693951 : Nat) : Int)) [] := by
 refine AC.enter [331] [] func310 rfl (by decide) (by decide) (Nat.le_of_ble_eq_true rfl) (by kernel_rfl) ?_; refine An ?_
 have e1 : (hi : Int).tmod 2305843009213693951 = (hi : Int) := by rw [Int.tmod_eq_emod_of_nonneg (by omega)]; omega
 refine Aa @e1 ?_;refine cp (Zdi hi lo D hD hh hl) ?_;refine run ?_;exact Ab
end Pe
namespace Pe
open Tryz
open Go Sg
variable [Tab]
set_option maxRecDepth 100000
theorem Xm : IntKind.u64.wrap 2305843009213693951 = 2305843009213693951 := by decide +kernel
theorem Ms (a m : Int) (hm : 0 < m) (hm' : m < 4611686018427387904) (ha : -9223372036854775808 ≤ a ∧ a ≤ 9223372036854775807) : AC prog 247 [.it .i64 a, .it .i64 m] [] (.it .i64 (a % m)) [] := by
 refine AC.enter [] [] func247 rfl (by decide) (by decide) (Nat.le_of_ble_eq_true rfl) (by kernel_rfl) ?_; refine An ?_
 have h1 : a % m = if a.tmod m < 0 then a.tmod m + m else a.tmod m := by
  rw [Int.emod_eq_tmod];have hb := Int.emod_nonneg a (show m ≠ 0 by omega)
  have ht := Int.tmod_lt_of_pos a hm;by_cases h0 : 0 ≤ a
  ·have := Int.tmod_nonneg m h0
   rw [if_pos (.inl h0), if_neg (by omega)]; omega
  ·by_cases hd : m ∣ a
   ·rw [if_pos (.inr hd), Int.tmod_eq_zero_of_dvd hd]; simp
   ·have hneg : a.tmod m < 0 := by
     have h2 := Int.emod_eq_tmod (a := a) (b := m);rw [if_neg (by rintro (h | h); exact h0 h; exact hd h)] at h2
     have h3 := Int.emod_lt_of_pos a hm
     have : (m.natAbs : Int) = m := by omega
     omega
    rw [if_neg (by rintro (h | h); exact h0 h; exact hd h), if_pos hneg]
    omega
 have h2 : -m ≤ a.tmod m ∧ a.tmod m < m := by
  have hb := Int.emod_nonneg a (show m ≠ 0 by omega)
  have hc := Int.emod_lt_of_pos a hm;have ht := Int.tmod_lt_of_pos a hm;split at h1 <;> omega
 have hm0 : m ≠ 0 := by omega
 obtain ⟨t, ht⟩ : ∃ t, a.tmod m = t := ⟨_, rfl⟩
 rw [ht] at h1 h2;rw [h1];by_cases h0 : t < 0
 ·rw [if_pos h0]
  refine Aa (an @ht @hm0) ?_;exact Ab
 ·rw [if_neg h0]
  refine Aa (an @ht @hm0) ?_;exact Ab
theorem ZaD (a b : Int) (ha : -9223372036854775808 ≤ a ∧ a ≤ 9223372036854775807) (hb : -9223372036854775808 ≤ b ∧ b ≤ 9223372036854775807) : AC prog 246 [.it .i64 a, .it .i64 b, .it .i64 2305843009213693951] [] (.it .i64 (Il a b : Nat)) [] := by
 refine AC.enter [247, 309, 310] [] func246 rfl (by decide) (by decide) (Nat.le_of_ble_eq_true rfl) (by kernel_rfl) ?_; refine An ?_
 unfold Il;have a1 := Int.emod_nonneg a (show (2305843009213693951 : Int) ≠ 0 by omega)
 have a2 := Int.emod_lt_of_pos a (show (0 : Int) < 2305843009213693951 by omega)
 have b1 := Int.emod_nonneg b (show (2305843009213693951 : Int) ≠ 0 by omega)
 have b2 := Int.emod_lt_of_pos b (show (0 : Int) < 2305843009213693951 by omega)
 obtain ⟨x, hx⟩ := Int.eq_ofNat_of_zero_le a1;obtain ⟨y, hy⟩ := Int.eq_ofNat_of_zero_le b1;have ra := Ms a 2305843009213693951 (by omega) (by omega) ha
 have rb := Ms b 2305843009213693951 (by omega) (by omega) hb
 rw [hx] at ra a1 a2 ⊢;rw [hy] at rb b1 b2 ⊢;rw [Int.toNat_natCast, Int.toNat_natCast];have wx := Dx (n := x) (by omega)
 have wy := Dx (n := y) (by omega)
 have wP := Xm;have hxy : x * y < 2305843009213693951 * 2305843009213693951 := Nat.mul_lt_mul'' (by omega) (by omega)
 have hm := ZaE x y (by omega) (by omega)
 have hr := ZA (x * y / 18446744073709551616) (x * y % 18446744073709551616) (x * y) (by omega) (by omega) (by omega)
 have hz : x * y % 2305843009213693951 < 2305843009213693951 := Nat.mod_lt _ (by omega)
 refine run ?_;refine cp ra ?_;refine run ?_;refine cp rb ?_;refine Aa (A3 @wx @wy @wP) ?_;refine cp hm ?_;refine Aa (A3 @wx @wy @wP) ?_;refine cp hr ?_;refine run ?_;exact Ab
theorem Pi (a b : Int) (ha : -9223372036854775808 ≤ a ∧ a ≤ 9223372036854775807) (hb : -9223372036854775808 ≤ b ∧ b ≤ 9223372036854775807) : AC prog 155 [.it .i64 a, .it .i64 b] [] (.it .i64 (Il a b : Nat)) [] := by
 refine AC.enter [246] [] func155 rfl (by decide) (by decide) (Nat.le_of_ble_eq_true rfl) (by kernel_rfl) ?_; refine An ?_
 refine run ?_;refine cp (ZaD a b ha hb) ?_;refine run ?_;exact Ab
end Pe
namespace Pe
open Tryz
open Go Go.RowKit Co Sg
set_option maxRecDepth 100000
theorem Yu (n i : Nat) (h : n < 9223372036854775808) (h' : i ≤ 64) : F4 .i64 (n : Int) (i : Int) = some (.it .i64 ((n / 2 ^ i : Nat) : Int)) := by
 unfold F4;rw [if_pos (by omega), Int.toNat_natCast, show min i IntKind.i64.bits = i from Nat.min_eq_left h']
 congr 2
 rw [Int.fdiv_eq_ediv_of_nonneg _ (by exact Int.le_of_lt (Int.pow_pos (by omega)))]
 norm_cast
theorem Zec (n : Nat) : n < 2 ^ AU n := by
 unfold AU;split
 ·subst_vars; decide
 ·exact Nat.lt_log2_self
theorem Zed {n : Nat} (h : n < 9223372036854775808) : AU n ≤ 63 := by
 unfold AU;split
 ·omega
 ·have := (Nat.log2_lt (n := n) (k := 63) (by assumption)).2 (by omega)
  omega
theorem ZX {f r p e : Nat} (h : e = 0) : EY f r p e = r := by subst h; exact Oy f r p
set_option maxHeartbeats 1600000 in
theorem Tw (a e : Int) (ha : -9223372036854775808 ≤ a ∧ a ≤ 9223372036854775807) (he : -9223372036854775808 ≤ e ∧ e ≤ 9223372036854775807) : AC prog 156 [.it .i64 a, .it .i64 e] [] (.it .i64 (FY a e : Nat)) [] := by
 refine AC.enter [247, 184, 155] [] func156 rfl (by decide) (by decide) (Nat.le_of_ble_eq_true rfl) (by kernel_rfl) ?_; refine An ?_
 unfold FY AY;have a1 := Int.emod_nonneg a (show (2305843009213693951 : Int) ≠ 0 by omega)
 have a2 := Int.emod_lt_of_pos a (show (0 : Int) < 2305843009213693951 by omega)
 have ra := Ms a 2305843009213693951 (by omega) (by omega) ha
 obtain ⟨x, hx⟩ := Int.eq_ofNat_of_zero_le a1;rw [hx] at ra a1 a2 ⊢;rw [Int.toNat_natCast, Nat.mod_eq_of_lt (show x < 2305843009213693951 by omega)]
 have hE : ∃ n : Nat, n < 9223372036854775808 ∧ ((if e < 0 then (e % 2305843009213693950).toNat else e.toNat) = n) ∧ (if e < 0 then e % 2305843009213693950 else e) = (n : Int) := by
  split
  ·exact ⟨(e % 2305843009213693950).toNat, by omega, rfl, by omega⟩
  ·exact ⟨e.toNat, by omega, rfl, by omega⟩
 obtain ⟨n, hn, en, eI⟩ := hE;rw [en];have wn := Dx (n := n) (by omega)
 have hlen := MR n (by omega)
 have hb1 := Zec n;have hb2 : AU n ≤ 63 := Zed (by omega)
 by_cases hneg : e < 0
 focus
  rw [if_pos hneg] at eI;have re := Ms e 2305843009213693950 (by omega) (by omega) he
  rw [eI] at re;refine run ?_;refine cp re ?_;refine run ?_;refine cp ra ?_;refine Aa @wn ?_;refine cp hlen ?_
 rotate_left;focus
  rw [if_neg hneg] at eI;subst eI;refine run ?_;refine cp ra ?_;refine Aa @wn ?_;refine cp hlen ?_
 all_goals
  refine run ?_;refine AF (fun m e S => S = [] ∧ e 1 = .it .i64 (n : Int) ∧ e 16 = .it .i64 (AU n : Int) ∧ ∃ i r p : Nat, e 17 = .it .i64 (i : Int) ∧ e 5 = .it .i64 (r : Int) ∧ e 6 = .it .i64 (p : Int) ∧ i ≤ AU n ∧ r < 2305843009213693951 ∧ p < 2305843009213693951 ∧ EY 64 1 x n = EY (64 - i) r p (n / 2 ^ i) ∧ m = AU n - i) (AU n)
   ⟨rfl, Ad, Ad, 0, 1, x, Ad, Ad, Ad, by omega, by decide, by omega, by simp, rfl⟩ ?_
  rintro m e S ⟨rfl, s1, s16, i, r, p, s17, s5, s6, hi, hr, hp, hpow, rfl⟩
  by_cases hlt : i < AU n
  rotate_left
  ·obtain rfl : i = AU n := by omega
   rw [ZX (f := 64 - AU n) (e := n / 2 ^ AU n) (Nat.div_eq_of_lt hb1)] at hpow;rw [hpow];refine Aa (A5 @s1 @s16 @s17 @s5 @s6) ?_;exact Ab
  have hsh := Yu n i hn (by omega)
  have hq : n / 2 ^ i < 9223372036854775808 := Nat.lt_of_le_of_lt (Nat.div_le_self _ _) hn;have hand := Zeo (n / 2 ^ i) hq;have h64 : 64 - i = (64 - (i + 1)) + 1 := by omega
  have hd : n / 2 ^ i / 2 = n / 2 ^ (i + 1) := by rw [Nat.div_div_eq_div_mul, Nat.pow_succ]
  rw [h64, KM (64 - (i + 1)) r p, hd] at hpow;have mpp := Pi (p : Int) (p : Int) (by omega) (by omega)
  have mrp := Pi (r : Int) (p : Int) (by omega) (by omega)
  rw [Jo hp hp] at mpp;rw [Jo hr hp] at mrp;have lpp : p * p % 2305843009213693951 < 2305843009213693951 := Nat.mod_lt _ (by decide)
  have lrp : r * p % 2305843009213693951 < 2305843009213693951 := Nat.mod_lt _ (by decide)
  generalize n / 2 ^ i = q at *;by_cases ho : q % 2 = 1
  ·rw [if_pos ho] at hpow
   have hoI : ((q % 2 : Nat) : Int) = 1 := by omega
   refine Aa (A8 @s1 @s16 @s17 @s5 @s6 @hsh @hand @hoI) ?_;refine cp mrp ?_;refine Aa (A5 @s1 @s16 @s17 @s5 @s6) ?_;refine cp mpp ?_;refine Aa (A5 @s1 @s16 @s17 @s5 @s6) ?_;exact Ao (AU n - (i + 1)) (by omega) ⟨rfl, Ad, Ad, i + 1, r * p % 2305843009213693951, p * p % 2305843009213693951, Ad, Ad, Ad, by omega, lrp, lpp, hpow, rfl⟩
  ·rw [if_neg ho] at hpow
   have hoI : ((q % 2 : Nat) : Int) = 0 := by omega
   refine Aa (A8 @s1 @s16 @s17 @s5 @s6 @hsh @hand @hoI) ?_;refine cp mpp ?_;refine Aa (A5 @s1 @s16 @s17 @s5 @s6) ?_;exact Ao (AU n - (i + 1)) (by omega) ⟨rfl, Ad, Ad, i + 1, r, p * p % 2305843009213693951, Ad, Ad, Ad, by omega, hr, lpp, hpow, rfl⟩
theorem G6 (a : Int) (b e : Nat) (h : a = (b : Int)) (hb : b < 2305843009213693951) : FY a (e : Int) = AY b e := by
 subst h;unfold FY;rw [if_neg (by omega), Int.toNat_natCast, show ((b : Int) % (2305843009213693951 : Int)).toNat = b by omega]
theorem Ym (l : By) (h : l.length ≤ 140737488355328) : AC prog 311 [.st l] [] (.it .i64 (Sm.num l : Nat)) [] := by
 refine AC.ofBelow (by kernel_rfl) fun w g cargs ht hargs => ?_
 rw [KX hargs];refine (Zas ⟨l.toArray⟩ w (by simp [ByteArray.size]; omega)).mono ?_
 rintro r w' ⟨rfl, rfl⟩
 exact ⟨_, rfl, fun g' => .it g' _ _, Below.refl _ _⟩
theorem Te : ∀ (l : List By), List.intercalate [] l = l.flatten
 | [] => rfl
 | [a] => by simp [List.intercalate]
 | a :: b :: l => by
  have := Te (b :: l);unfold List.intercalate at this ⊢;simp only [List.intersperse, List.flatten_cons, List.nil_append] at this ⊢;rw [this]
theorem Zca (l : List By) : Ak (l.map AV.st) = l.map AV.st := by
 induction l with
 | nil => rfl
 | cons b l ih => simp only [List.map_cons, Ak, List.flatMap_cons, AV.cells] at *; rw [ih]; rfl
theorem Zbp (l : List By) (h : l.flatten.length ≤ 140737488355328) (hl : 0 < l.length) (hl2 : l.length ≤ 1000000) : AC prog 312 [At l, .st []] [] (.st l.flatten) [] := by
 refine AC.ofBelow (by kernel_rfl) fun w g cargs ht hargs => ?_
 obtain ⟨h1, h2⟩ := hargs;obtain ⟨c0, c1, rfl⟩ : ∃ c0 c1, cargs = #[c0, c1] := by
  refine ⟨cargs[0]'(by rw [h1]; simp), cargs[1]'(by rw [h1]; simp), ?_⟩
  apply Array.ext
  ·simpa using h1
  ·intro i hi hj
   match i, hj with
   | 0, _ => rfl
   | 1, _ => rfl
 have r0 := h2 0 _ _ rfl rfl;have r1 := h2 1 _ _ rfl rfl;cases r1
 cases r0 with
 | sl _ _ _ A c sz cu hc hcm hsz hA k1 hr hm =>
  have hfl := Zca l;rw [hfl] at hA k1 hr;simp only [List.length_map] at hA hc k1 hr ⊢;obtain ⟨b, o, rfl, hcell⟩ := hA hl;have hcu : ∀ (j : Nat) x, l[j]? = some x → cu j = .string ⟨x.toArray⟩ := fun j x hx => by
   have := hr j (.st x) (by rw [List.getElem?_map, hx]; rfl)
   generalize cu j = y at this;cases this
   rfl
  have hj : Lib.join ((l.map fun x => (⟨x.toArray⟩ : ByteArray)).map (·.data.toList)) (⟨([] : By).toArray⟩ : ByteArray).data.toList = l.flatten := by
   rw [List.map_map, show ((fun x : ByteArray => x.data.toList) ∘ fun x : By => (⟨x.toArray⟩ : ByteArray)) = id from by funext x; simp, List.map_id]
   exact Te l
  have key := Tryz.strings_Join b o c (l.map fun x => (⟨x.toArray⟩ : ByteArray)) ⟨([] : By).toArray⟩ w (fun j x hx => by
    rw [List.getElem?_map] at hx
    obtain ⟨y, hy, rfl⟩ := Option.map_eq_some_iff.1 hx;rw [(hcell j (List.getElem?_eq_some_iff.1 hy).1).2, hcu j y hy])
   (World.block_lt_of_cell? w _ (hcell 0 hl).2) (by rw [List.length_map]; omega) (by rw [List.length_map]; exact hc) (by rw [hj]; exact h)
  rw [hj, List.length_map] at key;refine key.mono ?_
  rintro r w' ⟨rfl, hb⟩
  exact ⟨_, rfl, fun g' => .st g' _, hb⟩
theorem ZbN (l : List By) (h : l.flatten.length ≤ 1000000000) (hl : 0 < l.length) (hl2 : l.length ≤ 1000000) : AC prog 248 [At l] [] (.it .i64 (Sg.hash l.flatten : Nat)) [] := by
 refine AC.enter [312, 61, 311] [] func248 rfl (by decide) (by decide) (Nat.le_of_ble_eq_true rfl) (by kernel_rfl) ?_; refine An ?_
 have hs : (Sm.sha l.flatten).length ≤ 140737488355328 := by show 32 ≤ _; omega
 refine run ?_;refine cp (Zbp l (by omega) hl hl2) ?_
 refine run ?_;refine cp (Jc l.flatten (by omega)) ?_
 refine run ?_;refine cp (Ym _ hs) ?_;refine run ?_;exact Ab
theorem Tk (a b c d : By) : [a, b, c, d].flatten = a ++ b ++ c ++ d := by simp
theorem KU (n : Int) (h : n < 9223372036854775808) : (Ag n).length ≤ 9 := Aj n h
theorem L1 (m : By) (h : m.length ≤ 100000000) : (text m).length ≤ 100000009 := by
 have := MF 8 m.length (by omega)
 unfold text;rw [List.length_append];omega
theorem ZdM (r p : Int) (m : By) (hm : m.length ≤ 100000000) (hr : -9223372036854775808 ≤ r ∧ r ≤ 9223372036854775807) (hp : -9223372036854775808 ≤ p ∧ p ≤ 9223372036854775807) : AC prog 157 [.it .i64 r, .it .i64 p, .st m] [] (.it .i64 (Dt r p m : Nat)) [] := by
 refine AC.enter [158, 152, 248] [] func157 rfl (by decide) (by decide) (Nat.le_of_ble_eq_true rfl) (by kernel_rfl) ?_; refine An ?_
 have tw : (text Fj).length = 5 := by rfl
 have tm := L1 m hm;have l1 := KU r (by omega)
 have l2 := KU p (by omega)
 have hlt := Pd (text Fj ++ Ag r ++ Ag p ++ text m);unfold Dt;have hh := ZbN [text Fj, Ag r, Ag p, text m] (by rw [Tk]; simp only [List.length_append]; omega) (by simp) (by simp)
 rw [Tk] at hh;generalize Sg.hash (text Fj ++ Ag r ++ Ag p ++ text m) = h at *;have e : (h : Int).tmod 2305843009213693950 = ((h % 2305843009213693950 : Nat) : Int) := by rw [Int.tmod_eq_emod_of_nonneg (by omega)]; omega
 refine run ?_;refine cp (Dl Fj (by simp)) ?_
 refine run ?_;refine cp (Cm r (by omega) (by omega)) ?_
 refine run ?_;refine cp (Cm p (by omega) (by omega)) ?_
 refine run ?_;refine cp (Dl m (by omega)) ?_
 refine run ?_;refine cp hh ?_;refine Aa @e ?_;exact Ab
abbrev Ea (k : Key) : AV := .agg [.it .i64 k.secret, .it .i64 k.pub]
abbrev GO (s : Sig) : AV := .agg [.it .i64 s.e, .it .i64 s.s]
theorem Lg (n : Int) : AC prog 154 [.it .i64 n] [] (.bo (FW n)) [] := by
 refine AC.enter [] [] func154 rfl (by decide) (by decide) (Nat.le_of_ble_eq_true rfl) (by kernel_rfl) ?_; refine An ?_
 unfold FW;by_cases h : 0 ≤ n
 ·rw [decide_eq_true h]
  refine run ?_;exact Ab
 ·rw [decide_eq_false h]
  refine run ?_;exact Ab
theorem JX (p : Int) (m : By) (s : Sig) (hm : m.length ≤ 100000000) (hp : -9223372036854775808 ≤ p ∧ p ≤ 9223372036854775807) (hs : -9223372036854775808 ≤ s.e ∧ s.e ≤ 9223372036854775807) : AC prog 92 [.it .i64 p, .st m, GO s] [] (.bo (Gb p m s)) [] := by
 refine AC.enter [154, 156, 155, 157] [] func92 rfl (by decide) (by decide) (Nat.le_of_ble_eq_true rfl) (by kernel_rfl) ?_; refine An ?_
 unfold Gb;by_cases h1 : 1 ≤ p
 rotate_left
 ·rw [decide_eq_false h1]
  refine run ?_;exact Ab
 by_cases h2 : p < 2305843009213693951
 rotate_left
 ·rw [decide_eq_true h1, decide_eq_false h2]
  refine run ?_;exact Ab
 rw [decide_eq_true h1, decide_eq_true h2];cases ie : FW s.e with
 | false =>
  refine run ?_;refine cp (Lg s.e) ?_;refine Aa @ie ?_;exact Ab
 | true =>
  cases is : FW s.s with
  | false =>
   refine run ?_;refine cp (Lg s.e) ?_;refine Aa @ie ?_;refine cp (Lg s.s) ?_;refine Aa @is ?_;exact Ab
  | true =>
   have re : 0 ≤ s.e ∧ s.e < 2305843009213693950 := by simpa [FW] using ie
   have rs : 0 ≤ s.s ∧ s.s < 2305843009213693950 := by simpa [FW] using is
   have x1 := Tw 37 s.s (by omega) (by omega)
   have x2 := Tw p (2305843009213693950 - s.e) (by omega) (by omega)
   have e1 : FY 37 s.s = AY 37 s.s.toNat := by
    have := G6 37 37 s.s.toNat rfl (by decide)
    rwa [Int.toNat_of_nonneg rs.1] at this
   have e2 : FY p (2305843009213693950 - s.e) = AY p.toNat (2305843009213693950 - s.e).toNat := by
    have := G6 p p.toNat (2305843009213693950 - s.e).toNat (by omega) (by omega)
    rwa [Int.toNat_of_nonneg (by omega)] at this
   rw [e1] at x1;rw [e2] at x2;have l1 := Zzr 37 s.s.toNat;have l2 := Zzr p.toNat (2305843009213693950 - s.e).toNat;have hmul := Pi (AY 37 s.s.toNat : Nat) (AY p.toNat (2305843009213693950 - s.e).toNat : Nat) (by omega) (by omega)
   rw [Jo l1 l2] at hmul;change AC _ _ _ _ (.it .i64 ((Ev p s : Nat) : Int)) _ at hmul;have hcl : Ev p s < 2305843009213693951 := Nat.mod_lt _ (by decide)
   have hch := ZdM (Ev p s : Nat) p m hm (by omega) (by omega)
   generalize Ev p s = c at *;generalize Dt (c : Int) p m = h at *;generalize AY 37 s.s.toNat = y1 at *;generalize AY p.toNat (2305843009213693950 - s.e).toNat = y2 at *;refine run ?_;refine cp (Lg s.e) ?_;refine Aa @ie ?_;refine cp (Lg s.s) ?_;refine Aa @is ?_;refine cp x1 ?_;refine run ?_;refine cp x2 ?_;refine run ?_;refine cp hmul ?_;refine run ?_;refine cp hch ?_;refine run ?_;exact Ab
end Pe
end
end Go.Proofs.YtiidnoejnphocaaGreatDoor
