/- A part. -/
import Derived.Test.YtldohjjoicmfpaaGreatDoorKr7
import Derived.Deep.RegionHeld3
import Derived.Deep.OwnRows
import Derived.Lib.AppendStr
import Derived.Test.YtldohjjoicmfpaaGreatDoorChecked
import Derived.WalkKit
import Derived.ProofKit
import Derived.WalkSpells
import Derived.Lib.Hide
import Derived.WalkLawsBesides
import Derived.BigQuiet
import Derived.StillTailTactics
import Derived.Deep.RegionLaw
set_option linter.unusedSectionVars false
set_option linter.unusedVariables false
set_option linter.unusedSimpArgs false
namespace Go.Proofs.YtldohjjoicmfpaaGreatDoor
section
section
open Go.RowKit Sm
set_option maxHeartbeats 400000 in
theorem Zba (s : ByteArray) (w : World) (hs : s.size ≤ 9223372036854775807) :
  Calls Tryz.prog 173 #[.string s] w fun e w' => e = .returned (Ag (crc s.data.toList)) ∧ w = w' := by
 go_enter Tryz.func173, Tryz.ntmps173
 go_wp2
 go_loop [3, 4, 5, 6] (fun r i _ _ => ∃ k : Nat, k ≤ s.size ∧ i = .int .i64 k ∧ r = Ag (G3 (s.data.toList.take k))) (fun _ i _ _ => s.size - (intOf i).toNat)
 case atStart => exact ⟨0, Nat.zero_le _, rfl, rfl⟩
 case round =>
  obtain ⟨k, hk, rfl, rfl⟩ := hrel;generalize hr : G3 (s.data.toList.take k) = r0;have Hr := Veil.mk hr; clear hr;by_cases hlt : k < s.size
  ·go_wp2
   go_loop [3, 5, 6] (fun r i _ => ∃ j : Nat, j ≤ 8 ∧ i = .int .i64 j ∧ r = Ag (Jw j (r0 ^^^ bw s[k]))) (fun _ i _ => 8 - (intOf i).toNat)
   case atStart => exact ⟨0, by omega, rfl, rfl⟩
   case round =>
    obtain ⟨j, hj, rfl, rfl⟩ := hrel;by_cases hlt2 : j < 8
    ·generalize hc : Jw j (r0 ^^^ bw s[k]) = c
     have Hc := Veil.mk hc; clear hc;rcases h1 : ES (c % 2#32) 1#32
     all_goals
      go_wp2
      go_round
      case rel => exact ⟨j + 1, by omega, by go_num, Li (by rw [Jw, Hc.out]; rw [ZaB] at h1; first | exact (congrArg (· ^^^ _) (R7 c)).trans (U8 c h1) | exact (R7 c).trans (U9 c h1))⟩
      case measure => simp [intOf]; omega
    ·obtain rfl : j = 8 := by omega
     go_wp2
     go_round
     case rel => exact ⟨k + 1, by omega, by go_num, Li (by rw [QI s k hlt, Vj, Hr.out]; rfl)⟩
     case measure => simp [intOf]; omega
  ·have e := JS s k hlt
   have E := Veil.mk e; clear e;go_wp2
   go_ret
   exact ⟨RM (by rw [← Hr.out, E.out, crc]; exact ZbH _), rfl⟩
theorem J3 (x : BitVec 32) (n : Int) (w : World) (h0 : 0 < n) (h : n < 32) :
  Calls Tryz.prog 211 #[Ag x, .int .i64 n] w fun e w' => e = .returned (Ag (CR x n.toNat)) ∧ ∃ m, w' = w.drewN m := by
 have e := ZZ x n h0 h;have E := Veil.mk e; clear e;have q0 : 0 ≤ n := by omega
 have q1 : 0 ≤ 32 - n := by omega
 have q2 : n ≤ 32 := by omega
 go_enter Tryz.func211, Tryz.ntmps211
 go_wp2
 go_quiet (fail)
 go_wp2
 go_ret
 rw [← E.out];exact ⟨rfl, _, rfl⟩
theorem Zaa (s : ByteArray) (w : World) (hs : s.size ≤ 9223372036854775807) :
  Calls Tryz.prog 272 #[.string s] w fun e w' => e = .returned (.int .i64 (num s.data.toList)) ∧ w = w' := by
 go_enter Tryz.func272, Tryz.ntmps272
 go_wp2
 go_loop [3, 4, 5] (fun r i _ => ∃ k : Nat, k ≤ 8 ∧ i = .int .i64 k ∧ r = .int .i64 (if k ≤ 7 then (BR s.data.toList k : Int) else (num s.data.toList : Int))) (fun _ i _ => 8 - (intOf i).toNat)
 case atStart => exact ⟨0, by omega, rfl, rfl⟩
 case round =>
  obtain ⟨k, hk, rfl, rfl⟩ := hrel;by_cases hlt : k < 8
  ·have h7 : k ≤ 7 := by omega
   rw [if_pos h7];have hn := nat8_lt s.data.toList k;have hp : 256 ^ k ≤ 256 ^ 7 := Nat.pow_le_pow_right (by omega) h7
   have hnb : BR s.data.toList k < 72057594037927936 := by omega
   clear hn hp;obtain ⟨b, hb⟩ : ∃ b : Nat, b = (s.data.toList.getD k 0).toNat := ⟨_, rfl⟩
   have hb8 : b < 256 := by have := (s.data.toList.getD k 0).toNat_lt; omega
   have st : k < 7 → ((BR s.data.toList (k + 1) : Nat) : Int) = 256 * (BR s.data.toList k : Int) + (b : Int) := by
    intro _; rw [BR, hb]; omega
   have hsm : k < 7 → BR s.data.toList k < 281474976710656 := by
    intro h;have h1 := nat8_lt s.data.toList k;have h2 : 256 ^ k ≤ 256 ^ 6 := Nat.pow_le_pow_right (by omega) (by omega)
    omega
   have sl : k = 7 → (num s.data.toList : Int) = 32 * (BR s.data.toList k : Int) + (b : Int) / 8 := by
    intro h; subst h; rw [hb]; exact (ZbN _).symm
   have ek : ∀ (h : k < s.size), ((s[k]).toNat : Int) = (b : Int) := by
    intro h;rw [hb, List.getD_eq_getElem?_getD, List.getElem?_eq_getElem (by simpa using h)]; rfl
   have e0 : ¬ k < s.size → (b : Int) = 0 := by
    intro h;rw [hb, List.getD_eq_getElem?_getD, List.getElem?_eq_none (by simp; omega)]; rfl
   clear hb;generalize hn : BR s.data.toList k = n at st sl hnb hsm ⊢;have Hn := Veil.mk hn;have St := Veil.mk st;have Sl := Veil.mk sl;have Ek := Veil.mk ek;have E0 := Veil.mk e0;have Hsm := Veil.mk hsm;clear hn st sl ek e0 hsm;by_cases hl : k < s.size
   ·have ek := Ek.out hl
    by_cases hk7 : k < 7
    ·have hsm := Hsm.out hk7
     go_wp2
     go_round
     case rel => exact ⟨k + 1, by omega, by go_num, Lh (by rw [if_pos (by omega), St.out hk7])⟩
     case measure => simp [intOf]; omega
    ·go_wp2
     go_round
     case rel => exact ⟨k + 1, by omega, by go_num, Lh (by rw [if_neg (by omega), Sl.out (by omega)])⟩
     case measure => simp [intOf]; omega
   ·by_cases hk7 : k < 7
    ·have hsm := Hsm.out hk7
     go_wp2
     go_round
     case rel => exact ⟨k + 1, by omega, by go_num, Lh (by rw [if_pos (by omega), St.out hk7, E0.out hl, Int.add_zero])⟩
     case measure => simp [intOf]; omega
    ·go_wp2
     go_round
     case rel => exact ⟨k + 1, by omega, by go_num, Lh (by rw [if_neg (by omega), Sl.out (by omega), E0.out hl]; rfl)⟩
     case measure => simp [intOf]; omega
  ·obtain rfl : k = 8 := by omega
   rw [if_neg (by omega)]
   go_wp2
   go_ret
   exact ⟨rfl, rfl⟩
end
section
open Go.RowKit Sm
theorem Pg : DY Tryz.prog 204 164 1 4 := DY.mk' (z := .int .u32 0) Tryz.underlying204 (by kernel_rfl) rfl (by decide)
set_option maxRecDepth 100000 in
set_option maxHeartbeats 4000000 in
theorem Zx (g o c : Nat) (l : List UInt8) (w : World) (hcell : ∀ j, j < 64 → w.cell? ⟨g, o + j, none⟩ = some (w8 (l.getD j 0))) (hl : l.length = 64) (_hc : 64 ≤ c) (hB : g < w.heap.size) :
  Calls Tryz.prog 209 #[.slice (some ⟨g, o, none⟩) 64 c] w fun e w' => ∃ v', e = .returned v' ∧ Ao w' w.heap.size 164 1 v' ((CQ l).map Ag) ∧ Below w.heap.size w w' := by
 have Hcell := Veil.mk hcell; clear hcell;have Hl := Veil.mk hl; clear hl;go_enter Tryz.func209, Tryz.ntmps209
 go_wp2
 go_loopw [3, 4] (fun v i wr => ∃ k : Nat, k ≤ 16 ∧ i = .int .i64 k ∧ Ao wr w.heap.size 164 1 v ((ER l k).map Ag) ∧ Below w.heap.size w wr) (fun _ i _ => 16 - (intOf i).toNat)
 case atStart => exact ⟨0, by omega, rfl, Ao.nil _ _ _ _, Below.refl _ _⟩
 case round =>
  obtain ⟨k, hk, rfl, hown, hb⟩ := hrel;have hle := hb.size;by_cases hlt : k < 16
  ·have rd : ∀ j, j < 64 → wr.cell? ⟨g, o + j, none⟩ = some (w8 (l.getD j 0)) := fun j hj => (hb.cell hB).trans (Hcell.out j hj)
   have c0 := rd (4 * k) (by omega)
   have c1 := rd (4 * k + 1) (by omega)
   have c2 := rd (4 * k + 2) (by omega)
   have c3 := rd (4 * k + 3) (by omega)
   clear rd;have hw : JL (l.getD (4 * k) 0) (l.getD (4 * k + 1) 0) (l.getD (4 * k + 2) 0) (l.getD (4 * k + 3) 0) = Lg l k := rfl;have Hw := Veil.mk hw; clear hw;generalize l.getD (4 * k) 0 = b0 at c0 Hw;generalize l.getD (4 * k + 1) 0 = b1 at c1 Hw;generalize l.getD (4 * k + 2) 0 = b2 at c2 Hw;generalize l.getD (4 * k + 3) 0 = b3 at c3 Hw;have c2' : wr.cell? ⟨g, o + (4 * k + 1 + 1), none⟩ = some (w8 b2) := c2;have c3' : wr.cell? ⟨g, o + (4 * k + 2 + 1), none⟩ = some (w8 b3) := c3;clear c2 c3;have hC : ∀ {W : World}, Below w.heap.size w W → W.cell? ⟨g, o + 4 * k, none⟩ = some (w8 b0) ∧ W.cell? ⟨g, o + (4 * k + 1), none⟩ = some (w8 b1) ∧ W.cell? ⟨g, o + (4 * k + 1 + 1), none⟩ = some (w8 b2) ∧ W.cell? ⟨g, o + (4 * k + 2 + 1), none⟩ = some (w8 b3) := fun hB' =>
    ⟨(hB'.cell hB).trans ((hb.cell hB).symm.trans c0), (hB'.cell hB).trans ((hb.cell hB).symm.trans c1), (hB'.cell hB).trans ((hb.cell hB).symm.trans c2'), (hB'.cell hB).trans ((hb.cell hB).symm.trans c3')⟩
   have HC := Veil.mk @hC; clear hC;have hsum := X8 b0 b1 b2 b3;have Hsum := Veil.mk (hsum.trans Hw.out); clear hsum Hw;have i0 : (4 : Int) * (k : Int) < 64 := by omega
   have i1 : (4 : Int) * (k : Int) + 1 < 64 := by omega
   have i2 : (4 : Int) * (k : Int) + 2 < 64 := by omega
   have i3 : (4 : Int) * (k : Int) + 3 < 64 := by omega
   have w0 : IntKind.i64.wrap (4 * (k : Int)) = 4 * (k : Int) := by rw [IntKind.wrap_i64]; omega
   have w1 : IntKind.i64.wrap (4 * (k : Int) + 1) = 4 * (k : Int) + 1 := by rw [IntKind.wrap_i64]; omega
   have w2 : IntKind.i64.wrap (4 * (k : Int) + 2) = 4 * (k : Int) + 2 := by rw [IntKind.wrap_i64]; omega
   have w3 : IntKind.i64.wrap (4 * (k : Int) + 3) = 4 * (k : Int) + 3 := by rw [IntKind.wrap_i64]; omega
   have t0 : (4 * (k : Int)).toNat = 4 * k := by omega
   have t1 : (4 * (k : Int) + 1).toNat = 4 * k + 1 := by omega
   have t2 : (4 * (k : Int) + 2).toNat = 4 * k + 2 := by omega
   have t3 : (4 * (k : Int) + 3).toNat = 4 * k + 3 := by omega
   have p0 : 0 ≤ 4 * (k : Int) := by omega
   have p1 : 0 ≤ 4 * (k : Int) + 1 := by omega
   have p2 : 0 ≤ 4 * (k : Int) + 2 := by omega
   have p3 : 0 ≤ 4 * (k : Int) + 3 := by omega
   have hl1 : (((ER l k).map Ag).length + [Ag (bw b0 * 16777216#32 + bw b1 * 65536#32 + bw b2 * 256#32 + bw b3)].length) * 4 ≤ 140737488355328 := by
    rw [List.length_map, O8]; simp only [List.length_singleton]; omega
   have hl2 : ((ER l k).map Ag).length + [Ag (bw b0 * 16777216#32 + bw b1 * 65536#32 + bw b2 * 256#32 + bw b3)].length ≤ 140737488355328 := by
    rw [List.length_map, O8]; simp only [List.length_singleton]; omega
   have HL1 := Veil.mk hl1;have HL2 := Veil.mk hl2;clear hl1 hl2;go_wp2
   have Hb := Veil.mk hb; have Hown := Veil.mk hown; have HlE := Veil.mk hle; clear hb hown hle;go_region_held3 (fun W => W.cell? ⟨g, o + 4 * k, none⟩ = some (w8 b0) ∧ W.cell? ⟨g, o + (4 * k + 1), none⟩ = some (w8 b1) ∧ W.cell? ⟨g, o + (4 * k + 1 + 1), none⟩ = some (w8 b2) ∧ W.cell? ⟨g, o + (4 * k + 2 + 1), none⟩ = some (w8 b3)) (first | go_keep | exact HC.out hb') (first | (refine QU wr.drew rfl (.tmp 14) (.tmp 48) _ rfl Pg [Ag (bw b0 * 16777216#32 + bw b1 * 65536#32 + bw b2 * 256#32 + bw b3)] Hown.out.drew rfl rfl (F6 rfl) HL1.out HL2.out HlE.out ?_; intro v' w' own' gr'; have hb' := FR Hb.out.drew gr' Hown.out.drew (Nat.le_refl _) HlE.out))
   all_goals
    have hb := Hb.out;have hown := Hown.out;have hle := HlE.out;have own2 : Ao w' w.heap.size 164 1 v' ((ER l (k + 1)).map Ag) := by
     rw [Ud, List.map_append, ← Hsum.out]; exact own'
    clear own' gr';go_wp2
    go_roundw
    case rel => exact ⟨k + 1, by omega, by go_num, own2, hb'⟩
    case measure => simp [intOf]; omega
  ·have hk16 : 16 ≤ k := by omega
   have hown := Veil.mk (show Ao wr w.heap.size 164 1 _ ((BF l (16 - 16)).map Ag) by
    obtain rfl : k = 16 := by omega
    exact hown)
   clear hlt;go_wp2
   go_loopw [3, 5, 6, 7, 8, 9] (fun v i _ _ _ _ wr => ∃ m : Nat, 16 ≤ m ∧ m ≤ 64 ∧ i = .int .i64 m ∧ Ao wr w.heap.size 164 1 v ((BF l (m - 16)).map Ag) ∧ Below w.heap.size w wr) (fun _ i _ _ _ _ _ => 64 - (intOf i).toNat)
   case atStart => exact ⟨16, by omega, by omega, rfl, hown.out, hb⟩
   case round =>
    clear hown hb hle;obtain ⟨m, hm0, hm, rfl, hown, hb⟩ := hrel;have hle := hb.size;by_cases hlt : m < 64
    ·have hlen := L8 l (m - 16)
     obtain ⟨gw, cw, rfl, hcw, hbw, hgw, hcellw⟩ := hown.form (by rw [List.length_map]; omega)
     rw [List.length_map, hlen, show 16 + (m - 16) = m from by omega] at hown hcw ⊢
     have rd : ∀ j, j < m → wr.cell? ⟨gw, j, none⟩ = some (Ag ((BF l (m - 16)).getD j 0)) := fun j hj => hcellw j _ (by
      rw [List.getElem?_map, List.getElem?_eq_getElem (by omega), List.getD_eq_getElem?_getD, List.getElem?_eq_getElem (by omega)]; rfl)
     clear hcellw;have c15 := rd (m - 15) (by omega)
     have c2 := rd (m - 2) (by omega)
     have c7 := rd (m - 7) (by omega)
     have c16 := rd (m - 16) (by omega)
     clear rd;have hnx : Mt (BF l (m - 16)) m = (BF l (m - 16)).getD (m - 16) 0 + BX ((BF l (m - 16)).getD (m - 15) 0) + (BF l (m - 16)).getD (m - 7) 0 + Q4 ((BF l (m - 16)).getD (m - 2) 0) := rfl;generalize (BF l (m - 16)).getD (m - 16) 0 = x16 at c16 hnx;generalize (BF l (m - 16)).getD (m - 15) 0 = x15 at c15 hnx;generalize (BF l (m - 16)).getD (m - 7) 0 = x7 at c7 hnx;generalize (BF l (m - 16)).getD (m - 2) 0 = x2 at c2 hnx;have Hnx := Veil.mk hnx; clear hnx;have Hlen := Veil.mk hlen; clear hlen;have Hown := Veil.mk hown; have Hb := Veil.mk hb; clear hown hb;have b1 : 16 ≤ (m : Int) := by omega
     have b2 : (m : Int) < 64 := by omega
     go_wp2_with (go_at_call 211; refine (J3 _ _ _ (by omega) (by omega)).mono ?_; rintro e w' ⟨rfl, mm, rfl⟩)
     generalize hwz : World.drewN wr _ = wz;have c16 : wz.cell? ⟨gw, m - 16, none⟩ = some (Ag x16) := by rw [← hwz]; exact c16
     have c7 : wz.cell? ⟨gw, m - 7, none⟩ = some (Ag x7) := by rw [← hwz]; exact c7
     have Hown2 := Veil.mk (show Ao wz w.heap.size 164 1 (.slice (some ⟨gw, 0, none⟩) m cw) ((BF l (m - 16)).map Ag) by rw [← hwz]; exact Hown.out.drewN _)
     have Hb2 := Veil.mk (show Below w.heap.size w wz by rw [← hwz]; exact G7 Hb.out _)
     have hle2 := Hb2.out.size;clear hwz c15 c2;have w16 : IntKind.i64.wrap ((m : Int) - 16) = (m : Int) - 16 := by rw [IntKind.wrap_i64]; omega
     have w7 : IntKind.i64.wrap ((m : Int) - 7) = (m : Int) - 7 := by rw [IntKind.wrap_i64]; omega
     have t16 : ((m : Int) - 16).toNat = m - 16 := by omega
     have t7 : ((m : Int) - 7).toNat = m - 7 := by omega
     have p16 : 0 ≤ (m : Int) - 16 := by omega
     have p7 : 0 ≤ (m : Int) - 7 := by omega
     have b7 : 7 ≤ (m : Int) := by omega
     have i16 : (m : Int) - 16 < m := by omega
     have i7 : (m : Int) - 7 < m := by omega
     generalize hX : x16 + (CR x15 7 ^^^ CR x15 18 ^^^ x15 >>> 3) + x7 + (CR x2 17 ^^^ CR x2 19 ^^^ x2 >>> 10) = X;have HX : Veil (X = Mt (BF l (m - 16)) m) := ⟨by rw [← hX, Hnx.out]; rfl⟩
     have hl1 : (((BF l (m - 16)).map Ag).length + [Ag X].length) * 4 ≤ 140737488355328 := by
      rw [List.length_map, Hlen.out]; simp only [List.length_singleton]; omega
     have hl2 : ((BF l (m - 16)).map Ag).length + [Ag X].length ≤ 140737488355328 := by
      rw [List.length_map, Hlen.out]; simp only [List.length_singleton]; omega
     have HL1 := Veil.mk hl1;have HL2 := Veil.mk hl2;clear hl1 hl2 Hb Hown;go_region_law (refine QU wz.drew rfl (.tmp 80) (.tmp 96) _ rfl Pg [Ag X] Hown2.out.drew rfl rfl (F6 rfl) HL1.out HL2.out hle2 ?_; intro v' w' own' gr')
     all_goals
      have own2 : Ao w' w.heap.size 164 1 v' ((BF l (m + 1 - 16)).map Ag) := by
       rw [show m + 1 - 16 = m - 16 + 1 from by omega, BF, show 16 + (m - 16) = m from by omega, List.map_append, ← HX.out]; exact own'
      have hb' := FR Hb2.out.drew gr' Hown2.out.drew (Nat.le_refl _) hle2;clear own' gr' w16 w7 t16 t7 p16 p7 i16 i7;go_wp2
      go_roundw
      case rel => exact ⟨m + 1, by omega, by omega, by go_num, own2, hb'⟩
      case measure => simp [intOf]; omega
    ·have hm64 : m = 64 := by omega
     subst hm64;have hown : Ao wr w.heap.size 164 1 _ ((CQ l).map Ag) := hown;go_wp2
     go_ret
     exact ⟨_, rfl, hown, hb⟩
theorem YH : (Ed.map Ag).toArray = #[.int .u32 1116352408, .int .u32 1899447441, .int .u32 3049323471, .int .u32 3921009573, .int .u32 961987163, .int .u32 1508970993, .int .u32 2453635748, .int .u32 2870763221, .int .u32 3624381080, .int .u32 310598401, .int .u32 607225278, .int .u32 1426881987, .int .u32 1925078388, .int .u32 2162078206, .int .u32 2614888103, .int .u32 3248222580, .int .u32 3835390401, .int .u32 4022224774, .int .u32 264347078, .int .u32 604807628, .int .u32 770255983, .int .u32 1249150122, .int .u32 1555081692, .int .u32 1996064986, .int .u32 2554220882, .int .u32 2821834349, .int .u32 2952996808, .int .u32 3210313671, .int .u32 3336571891, .int .u32 3584528711, .int .u32 113926993, .int .u32 338241895, .int .u32 666307205, .int .u32 773529912, .int .u32 1294757372, .int .u32 1396182291, .int .u32 1695183700, .int .u32 1986661051, .int .u32 2177026350, .int .u32 2456956037, .int .u32 2730485921, .int .u32 2820302411, .int .u32 3259730800, .int .u32 3345764771, .int .u32 3516065817, .int .u32 3600352804, .int .u32 4094571909, .int .u32 275423344, .int .u32 430227734, .int .u32 506948616, .int .u32 659060556, .int .u32 883997877, .int .u32 958139571, .int .u32 1322822218, .int .u32 1537002063, .int .u32 1747873779, .int .u32 1955562222, .int .u32 2024104815, .int .u32 2227730452, .int .u32 2361852424, .int .u32 2428436474, .int .u32 2756734187, .int .u32 3204031479, .int .u32 3329325298] := by kernel_rfl
theorem KQ {w : World} {g : Nat} {l : List (BitVec 32)} (h : ∀ j u, (l.map Ag)[j]? = some u → w.cell? ⟨g, j, none⟩ = some u) (j : Nat) (hj : j < l.length) : w.cell? ⟨g, j, none⟩ = some (Ag (l.getD j 0)) :=
 h j _ (by rw [List.getElem?_map, List.getElem?_eq_getElem hj, List.getD_eq_getElem?_getD, List.getElem?_eq_getElem hj]; rfl)
theorem Zbe (w : World) : Calls Tryz.prog 210 #[] w fun e w' => ∃ v, e = .returned v ∧ Ao w' w.heap.size 164 1 v (Ed.map Ag) ∧ Below w.heap.size w w' := by
 go_enter Tryz.func210, Tryz.ntmps210
 go_wp2
 go_ret
 refine ⟨_, rfl, ?_, (Below.refl _ _).alloc (Nat.le_refl _) _⟩
 have h := Ao.lit (e := 164) (base := w.heap.size) (size := 1) w (Ed.map Ag) 64 (Nat.le_refl _) (by unfold maxLen; omega) (by rw [List.length_map, LS])
 rw [YH] at h;exact h
theorem Zcw : BA.cells.toArray = #[.int .u32 1779033703, .int .u32 3144134277, .int .u32 1013904242, .int .u32 2773480762, .int .u32 1359893119, .int .u32 2600822924, .int .u32 528734635, .int .u32 1541459225] := by kernel_rfl
theorem Zat (w : World) : Calls Tryz.prog 157 #[] w fun e w' => ∃ v, e = .returned v ∧ Ao w' w.heap.size 164 1 v BA.cells ∧ Below w.heap.size w w' := by
 go_enter Tryz.func157, Tryz.ntmps157
 go_wp2
 go_ret
 refine ⟨_, rfl, ?_, (Below.refl _ _).alloc (Nat.le_refl _) _⟩
 have h := Ao.lit (e := 164) (base := w.heap.size) (size := 1) w BA.cells 8 (Nat.le_refl _) (by unfold maxLen; omega) (by rw [Ix])
 rw [Zcw] at h;exact h
set_option maxRecDepth 100000 in
set_option maxHeartbeats 4000000 in
theorem Zac (st : S8) (gh ch g o c : Nat) (l : List UInt8) (w : World) (hh : ∀ j, j < 8 → w.cell? ⟨gh, j, none⟩ = some (Ag (st.list.getD j 0))) (hgh : gh < w.heap.size) (hch : 8 ≤ ch)
  (hcell : ∀ j, j < 64 → w.cell? ⟨g, o + j, none⟩ = some (w8 (l.getD j 0))) (hl : l.length = 64) (hc : 64 ≤ c) (hB : g < w.heap.size) :
  Calls Tryz.prog 158 #[.slice (some ⟨gh, 0, none⟩) 8 ch, .slice (some ⟨g, o, none⟩) 64 c] w fun e w' => ∃ v', e = .returned v' ∧ Ao w' w.heap.size 164 1 v' (Fb st l).cells ∧ Below w.heap.size w w' := by
 have Hh := Veil.mk hh; clear hh;have Hcell := Veil.mk hcell; clear hcell;have Hl := Veil.mk hl; clear hl;have Hr : Rd w w.heap.size 1 (.slice (some ⟨gh, 0, none⟩) 8 ch) st.cells := ⟨_, 8, ch, rfl, hch, rfl, fun _ => ⟨_, rfl, hgh, fun j u hu => by
  have hj : j < 8 := (List.getElem?_eq_some_iff.1 hu).1
  rw [Addr.add_lit, Nat.zero_add, Hh.out j hj];rw [ZeC, List.getElem?_map] at hu
  rw [List.getD_eq_getElem?_getD]
  obtain ⟨x, hx, rfl⟩ := Option.map_eq_some_iff.1 hu;rw [hx]; rfl⟩⟩
 have HR := Veil.mk Hr; clear Hr;go_enter Tryz.func158, Tryz.ntmps158
 go_wp2_with (first
  | (go_at_call 209
     refine (Zx g o c l _ Hcell.out Hl.out hc hB).mono ?_
     rintro e w1 ⟨vw, rfl, ownw, hb1⟩
     have hs1 := hb1.size;have HB1 := Veil.mk hb1; clear hb1)
  | (go_at_call 210
     refine (Zbe _).mono ?_
     rintro e w2 ⟨vk, rfl, ownk, hb2⟩
     have hs2 := hb2.size;have HB2 := Veil.mk hb2; clear hb2;have Hownw := Veil.mk (ownw.below HB2.out (Nat.le_refl _)); clear ownw;have Hownk := Veil.mk ownk; clear ownk;have HB := Veil.mk (HB1.out.trans (HB2.out.mono hs1)); clear HB1 HB2;have HR2 := Veil.mk (HR.out.below HB.out);have HO8 := Veil.mk (Oi st.list);have H0 := Veil.mk (Ao.lit (e := 164) (base := w.heap.size) (size := 1) w2 [] 0 (by omega) (by unfold maxLen; omega) rfl)
     have HR3 := Veil.mk (HR2.out.alloc (Nat.le_trans hs1 hs2) (.cells #[] 164));have hle2 : w.heap.size ≤ (w2.alloc (.cells #[] 164)).heap.size := by simp; omega
     clear HR HR2)
  | (at_builtin
     go_loud (refine Wp (w2.alloc (.cells #[] 164)) rfl _ _ _ rfl Pg H0.out rfl HR3.out rfl HO8.out ?_ ?_ hle2 ?_)
     rotate_left 2;intro v3 w3 own3 gr3 hx3;clear hx3;have gr3 : w2.grownBy w3 (some w2.heap.size) := OT gr3;have hs3 := gr3.size;have HBw : Below w.heap.size w w3 := HB.out.grown gr3 (by omega) (fun k hk => by cases hk; omega)
     have own3 : Ao w3 w.heap.size 164 1 v3 (st.list.map Ag) := own3;have hw3 := Hownw.out.grown gr3 (fun g hg => by have := (Hownw.out.block g hg).2; simp; omega)
     have hk3 := Hownk.out.grown gr3 (fun g hg => by have := (Hownk.out.block g hg).2; simp; omega)
     clear gr3 H0 HR3 HO8))
 rotate_left 1
 ·show (0 + 8) * 4 ≤ _; omega
 ·show 0 + 8 ≤ _; omega
 obtain ⟨gw, cw, rfl, hcw, hbw, hgw, hcellw⟩ := hw3.form (by rw [List.length_map, I3]; omega)
 obtain ⟨gk, ck, rfl, hck, hbk, hgk, hcellk⟩ := hk3.form (by rw [List.length_map, LS]; omega)
 have CW := Veil.mk (KQ hcellw); clear hcellw hw3 Hownw;have CK := Veil.mk (KQ hcellk); clear hcellk hk3 Hownk;rw [List.length_map, I3] at hcw ⊢;rw [List.length_map, LS] at hck ⊢;have HBw := Veil.mk HBw;have HB3 := Veil.mk (Below.refl w3.heap.size w3);have Own3 := Veil.mk own3;clear own3;go_loopw [7, 8, 9, 10, 11, 12] (fun v i _ _ _ _ wr => ∃ (n : Nat) (s : S8), n ≤ 64 ∧ i = .int .i64 n ∧ Veil (Ao wr w.heap.size 164 1 v (s.list.map Ag)) ∧ Veil (s = H7 l st n) ∧ Veil (Below w3.heap.size w3 wr)) (fun _ i _ _ _ _ _ => 64 - (intOf i).toNat)
 case atStart => exact ⟨0, st, by omega, rfl, Own3, ⟨rfl⟩, HB3⟩
 case round =>
  obtain ⟨n, s, hn, rfl, Hown, Hs, HBr⟩ := hrel;obtain ⟨gv, cv, rfl, hcv, hbv, hgv, hcellv⟩ := Hown.out.form (by rw [List.length_map, Ik]; omega)
  rw [List.length_map, Ik] at hcv ⊢;have CV := Veil.mk (KQ hcellv); clear hcellv;by_cases hlt : n < 64
  ·have ck := (HBr.out.cell hgk).trans (CK.out n (by rw [LS]; exact hlt))
   have cw := (HBr.out.cell hgw).trans (CW.out n (by rw [I3]; exact hlt))
   have hrd : H7 l st (n + 1) = I9 (Ed.getD n 0) ((CQ l).getD n 0) s := by rw [H7, ← Hs.out]
   generalize Ed.getD n 0 = kn at ck hrd;generalize (CQ l).getD n 0 = xn at cw hrd;have Hrd := Veil.mk hrd; clear hrd;obtain ⟨sa, sb, sc, sd, se, sf, sg, sh⟩ := s;have c0 : wr.cell? ⟨gv, 0, none⟩ = some (Ag sa) := CV.out 0 (by show 0 < 8; omega)
   have c1 : wr.cell? ⟨gv, 1, none⟩ = some (Ag sb) := CV.out 1 (by show 1 < 8; omega)
   have c2 : wr.cell? ⟨gv, 2, none⟩ = some (Ag sc) := CV.out 2 (by show 2 < 8; omega)
   have c3 : wr.cell? ⟨gv, 3, none⟩ = some (Ag sd) := CV.out 3 (by show 3 < 8; omega)
   have c4 : wr.cell? ⟨gv, 4, none⟩ = some (Ag se) := CV.out 4 (by show 4 < 8; omega)
   have c5 : wr.cell? ⟨gv, 5, none⟩ = some (Ag sf) := CV.out 5 (by show 5 < 8; omega)
   have c6 : wr.cell? ⟨gv, 6, none⟩ = some (Ag sg) := CV.out 6 (by show 6 < 8; omega)
   have c7 : wr.cell? ⟨gv, 7, none⟩ = some (Ag sh) := CV.out 7 (by show 7 < 8; omega)
   clear CV;go_wp2
   go_quiet ((go_at_call 211; first | exact Calls.quiet_of (J3 _ _ _ (by omega) (by omega)) | exact quiet_more (J3 _ _ _ (by omega) (by omega))))
   go_wp2
   go_quiet (fail)
   go_wp2
   generalize hwq : World.drewN (World.drewN wr _) _ = wq;have c0 : wq.cell? ⟨gv, 0, none⟩ = some (Ag sa) := by rw [← hwq]; exact c0
   have c1 : wq.cell? ⟨gv, 1, none⟩ = some (Ag sb) := by rw [← hwq]; exact c1
   have c2 : wq.cell? ⟨gv, 2, none⟩ = some (Ag sc) := by rw [← hwq]; exact c2
   have c3 : wq.cell? ⟨gv, 3, none⟩ = some (Ag sd) := by rw [← hwq]; exact c3
   have c4 : wq.cell? ⟨gv, 4, none⟩ = some (Ag se) := by rw [← hwq]; exact c4
   have c5 : wq.cell? ⟨gv, 5, none⟩ = some (Ag sf) := by rw [← hwq]; exact c5
   have c6 : wq.cell? ⟨gv, 6, none⟩ = some (Ag sg) := by rw [← hwq]; exact c6
   have c7 : wq.cell? ⟨gv, 7, none⟩ = some (Ag sh) := by rw [← hwq]; exact c7
   have HBq := Veil.mk (show Below w3.heap.size w3 wq by rw [← hwq]; exact G7 (G7 HBr.out _) _)
   clear hwq ck cw;go_quiet ((go_at_call 211; first | exact Calls.quiet_of (J3 _ _ _ (by omega) (by omega)) | (refine quiet_more ?_; exact J3 _ _ _ (by omega) (by omega))))
   go_wp2
   go_quiet (fail)
   go_wp2
   generalize hwz : World.drewN (World.drewN wq _) _ = wz;have c0 : wz.cell? ⟨gv, 0, none⟩ = some (Ag sa) := by rw [← hwz]; exact c0
   have c1 : wz.cell? ⟨gv, 1, none⟩ = some (Ag sb) := by rw [← hwz]; exact c1
   have c2 : wz.cell? ⟨gv, 2, none⟩ = some (Ag sc) := by rw [← hwz]; exact c2
   have c3 : wz.cell? ⟨gv, 3, none⟩ = some (Ag sd) := by rw [← hwz]; exact c3
   have c4 : wz.cell? ⟨gv, 4, none⟩ = some (Ag se) := by rw [← hwz]; exact c4
   have c5 : wz.cell? ⟨gv, 5, none⟩ = some (Ag sf) := by rw [← hwz]; exact c5
   have c6 : wz.cell? ⟨gv, 6, none⟩ = some (Ag sg) := by rw [← hwz]; exact c6
   have HBz := Veil.mk (show Below w3.heap.size w3 wz by rw [← hwz]; exact G7 (G7 HBq.out _) _)
   clear hwz HBq;have hsz := HBz.out.size;refine wp_region_still_tail 26 (by kernel_rfl) (by kernel_rfl) ?_
   simp only [List.take_succ_cons, List.take_zero, List.drop_succ_cons, List.drop_zero];repeat still_step
   refine wpStill_nil ?_
   change wpList _ _ _ _ _ wz.drew;go_wp2
   have HBn := Veil.mk ((HBz.out.drew).alloc hsz (.cells (I9 kn xn ⟨sa, sb, sc, sd, se, sf, sg, sh⟩).cells.toArray 164));have HOn := Veil.mk (Ao.lit (e := 164) (base := w.heap.size) (size := 1) wz.drew (I9 kn xn ⟨sa, sb, sc, sd, se, sf, sg, sh⟩).cells 8 (Nat.le_trans HBw.out.size hsz) (by unfold maxLen; omega) rfl)
   go_roundw
   case rel => exact ⟨n + 1, I9 kn xn ⟨sa, sb, sc, sd, se, sf, sg, sh⟩, by omega, by go_num, HOn, ⟨Hrd.out.symm⟩, HBn⟩
   case measure => simp [intOf]; omega
  ·have hn64 : 64 ≤ n := by omega
   have Hm : Veil (Fb st l = st.add s) := ⟨by
    obtain rfl : n = 64 := by omega
    rw [Fb, ← Hs.out]⟩
   have HBw2 := Veil.mk (HBw.out.trans (HBr.out.mono HBw.out.size));clear CV hlt HBr Hs;go_wp2
   go_loopw [13] (fun i wr => ∃ k : Nat, k ≤ 8 ∧ i = .int .i64 k ∧ Veil (Ao wr w.heap.size 164 1 (.slice (some ⟨gv, 0, none⟩) 8 cv) ((Fj s.list st.list k).map Ag)) ∧ Veil (Below w.heap.size w wr)) (fun i _ => 8 - (intOf i).toNat)
   case atStart => exact ⟨0, by omega, rfl, Hown, HBw2⟩
   case round =>
    clear Hown HBw2 hgv;obtain ⟨k, hk, rfl, Hown, HB⟩ := hrel;by_cases hlt : k < 8
    ·have hal := Zfj s.list st.list k
     rw [Ik] at hal;obtain ⟨gv', cv', hv', _, hbg, hgv, hcellv⟩ := Hown.out.form (by rw [List.length_map]; omega)
     obtain ⟨rfl, rfl⟩ : gv = gv' ∧ cv = cv' := by
      simp only [Value.slice.injEq, Option.some.injEq, Addr.mk.injEq] at hv';exact ⟨hv'.1.1, hv'.2.2⟩
     clear hv';have cv := KQ hcellv k (by omega)
     have chh := (HB.out.cell hgh).trans (Hh.out k hlt);have hfz := Hown.out.free k (by rw [List.length_map]; omega)
     clear hcellv;have hset : Fj s.list st.list (k + 1) = (Fj s.list st.list k).set k ((Fj s.list st.list k).getD k 0 + st.list.getD k 0) := rfl;generalize (Fj s.list st.list k).getD k 0 = x at cv hset;generalize st.list.getD k 0 = y at chh hset;have Hset := Veil.mk hset; clear hset;have Hal := Veil.mk hal; clear hal;have k8 : (k : Int) < 8 := by omega
     go_wp2
     refine wp_region_still_tail 12 (by kernel_rfl) (by kernel_rfl) ?_
     simp only [List.take_succ_cons, List.take_zero, List.drop_succ_cons, List.drop_zero];repeat still_step
     refine wpStill_nil ?_
     change wpList _ _ _ _ _ wr.drew;go_wp2
     have HOn := Veil.mk (Hown.out.drew.set k (by rw [List.length_map]; have := Hal.out; omega) (Ag (x + y)))
     have HBn := Veil.mk ((G7 HB.out 1).setCell (p := ⟨gv, k, none⟩) hbg (Ag (x + y)));go_roundw
     case rel => exact ⟨k + 1, by omega, by go_num, ⟨by rw [Hset.out, List.map_set]; exact HOn.out⟩, HBn⟩
     case measure => simp [intOf]; omega
    ·have hk8 : 8 ≤ k := by omega
     have hfin : (Fj s.list st.list k).map Ag = (Fb st l).cells := by
      obtain rfl : k = 8 := by omega
      rw [Hm.out, Zfk]
     have Hf := Veil.mk hfin; clear hfin;clear hlt;go_wp2
     go_ret
     exact ⟨_, rfl, by rw [← Hf.out]; exact Hown.out, HB.out⟩
end
section
open Go.RowKit Sm
set_option maxRecDepth 100000 in
set_option maxHeartbeats 2000000 in
theorem ZN (s : ByteArray) (w : World) (hs : s.size ≤ 70368744177664) :
  Calls Tryz.prog 93 #[.string s] w fun e w' => e = .returned (.string ⟨(sha s.data.toList).toArray⟩) ∧ Below w.heap.size w w' := by
 have hm : s.size ≤ maxLen := by unfold maxLen; omega
 go_enter Tryz.func93, Tryz.ntmps93
 go_wp2_with (first
  | (refine VH w rfl _ _ (.tmp 10) rfl 5 s rfl Tryz.underlying9 Tryz.underlying86 Tryz.underlying5 hm (base := w.heap.size) (Nat.le_refl _) ?_; intro v0 w0 own0 gr0 hx; clear hx)
  | (at_builtin; refine G8 w0 rfl _ _ _ rfl FO [.int .u8 128] own0 rfl rfl ?_ ?_ ?_ ?_ ?_; rotate_left 4; intro v1 w1 own1 gr1))
 rotate_left 1
 ·exact F6 rfl
 ·simp; omega
 ·simp; omega
 ·exact gr0.size
 have hb1 : Below w.heap.size w w1 := FR ((Below.refl _ _).grown gr0 (Nat.le_refl _) (fun k hk => by cases hk)) gr1 own0 (Nat.le_refl _) gr0.size
 have own1' : Ao w1 w.heap.size 5 1 v1 ((CA s.data.toList 0).map w8) := by
  rw [show ((CA s.data.toList 0).map w8) = s.data.toList.map w8 ++ [.int .u8 128] from by simp [CA]; rfl]
  exact own1
 clear own0 gr0 gr1 own1;have hl : s.data.toList.length = s.size := by simp
 generalize hs0 : s.data.toList = l at own1' hl ⊢;have Hl := Veil.mk hl;have Hs0 := Veil.mk hs0;clear hl hs0;go_loopw [3] (fun v wr => ∃ (N z : Nat) (A : Option Addr) (c : Nat), v = .slice A N c ∧ Veil (N = l.length + 1 + z) ∧ z ≤ Bx (l.length + 1) ∧ Ao wr w.heap.size 5 1 (.slice A N c) ((CA l z).map w8) ∧ Below w.heap.size w wr) (fun v _ => l.length + 1 + Bx (l.length + 1) - lenOf v)
 case atStart =>
  obtain ⟨A, c, rfl⟩ := own1'.len1;exact ⟨_, 0, A, c, rfl, ⟨by rw [List.length_map, ET]⟩, Nat.zero_le _, own1', hb1⟩
 case round =>
  obtain ⟨N, z, A, c, rfl, HN, hz, hown, hb⟩ := hrel;have hzl := Np (l.length + 1);have hNs : N ≤ 70368744177964 := by have := HN.out; have := Hl.out; omega
  have hmod : ((N : Int) % 64 != 56) = decide (z < Bx (l.length + 1)) := by
   have h1 := Nq (l.length + 1);have h2 := PX (l.length + 1) z;rw [HN.out];by_cases hlt : z < Bx (l.length + 1)
   ·have := h2 hlt
    simp only [hlt, decide_true, bne_iff_ne];omega
   ·obtain rfl : z = Bx (l.length + 1) := by omega
    simp only [hlt, decide_false, bne_eq_false_iff_eq];omega
  have hle := hb.size;by_cases hlt : z < Bx (l.length + 1)
  ·have ht : ((N : Int) % 64 != 56) = true := by rw [hmod]; simpa using hlt
   clear hmod;go_wp2_with (at_builtin; refine G8 wr rfl _ _ _ rfl FO [.int .u8 0] hown rfl rfl ?_ ?_ ?_ hle ?_; rotate_left 3; intro v' w' own' gr')
   rotate_left 1
   ·exact F6 rfl
   ·rw [List.length_map, ET, ← HN.out]; simp; omega
   ·rw [List.length_map, ET, ← HN.out]; simp; omega
   have hb' := FR hb gr' hown (Nat.le_refl _) hle;have own2 : Ao w' w.heap.size 5 1 v' ((CA l (z + 1)).map w8) := by rw [UB, List.map_append]; exact own'
   clear own' gr' hown hb;go_wp2
   go_roundw
   obtain ⟨A', c', rfl⟩ := own2.len1;case rel => exact ⟨_, z + 1, A', c', rfl, ⟨by rw [List.length_map, ET]⟩, by omega, own2, hb'⟩
   case measure =>
    obtain ⟨A', c', rfl⟩ := own2.len1;simp only [lenOf, List.length_map, ET];have := HN.out;omega
  ·have ht : ((N : Int) % 64 != 56) = false := by rw [hmod]; simpa using hlt
   obtain rfl : z = Bx (l.length + 1) := by omega
   clear hmod;go_wp2
   generalize hX : 8#64 * BitVec.ofNat 64 s.size = X;have HX : Veil (X = BitVec.ofInt 64 (l.length : Int) * 8#64) := ⟨by rw [← hX, Hl.out, BitVec.mul_comm, BitVec.ofInt_natCast]⟩
   clear hX;go_loopw [3, 5] (fun v i wr => ∃ (M j : Nat) (A : Option Addr) (c : Nat), v = .slice A M c ∧ j ≤ 8 ∧ i = .int .i64 (56 - 8 * (j : Int)) ∧ Ao wr w.heap.size 5 1 (.slice A M c) ((CA l (Bx (l.length + 1)) ++ Eb X j).map w8) ∧ Below w.heap.size w wr) (fun _ i _ => (intOf i + 8).toNat)
   case atStart => exact ⟨N, 0, A, c, rfl, by omega, rfl, by simpa [Eb] using hown, hb⟩
   case round =>
    clear hown hb hle;obtain ⟨M, j, A', c', rfl, hj, rfl, hown, hb⟩ := hrel;have hle := hb.size;have hlen : (CA l (Bx (l.length + 1)) ++ Eb X j).length ≤ 70368744177964 := by
     rw [List.length_append, ET]
     have : (Eb X j).length ≤ 8 := by simp [Eb, KV]; omega
     have := Hl.out;omega
    by_cases hlt : j < 8
    ·have hge : (0 : Int) ≤ 56 - 8 * (j : Int) := by omega
     go_wp2_with (at_builtin; refine G8 wr rfl _ _ _ rfl FO [_] hown rfl rfl ?_ ?_ ?_ hle ?_; rotate_left 3; intro v' w' own' gr')
     rotate_left 1
     ·exact F6 rfl
     ·rw [List.length_map]; simp only [List.length_singleton]; omega
     ·rw [List.length_map]; simp only [List.length_singleton]; omega
     have hb' := FR hb gr' hown (Nat.le_refl _) hle;have own2 : Ao w' w.heap.size 5 1 v' ((CA l (Bx (l.length + 1)) ++ Eb X (j + 1)).map w8) := by
      rw [Wc _ _ hlt, ← List.append_assoc, List.map_append]; exact own'
     clear own' gr' hown hb;obtain ⟨A2, c2, rfl⟩ := own2.len1;go_wp2
     go_roundw
     case rel => exact ⟨_, j + 1, A2, c2, rfl, by omega, by go_num, own2, hb'⟩
     case measure => simp [intOf]; omega
    ·have hj8 : 8 ≤ j := by omega
     have hP : CA l (Bx (l.length + 1)) ++ Eb X j = EN l := by
      obtain rfl : j = 8 := by omega
      rw [HX.out];rfl
     rw [hP] at hown hlen;have hPl : (EN l).length % 64 = 0 := UA l l.length;have hP0 : 0 < (EN l).length := by unfold EN; rw [Pf]; omega
     have hst := ZbB l;generalize EN l = P at hown hlen hPl hP0 hst;have Hst := Veil.mk hst; clear hst hP;obtain ⟨gp, cp, hv, hcp, hbp, hgp, hcellp⟩ := hown.form (by rw [List.length_map]; exact hP0)
     rw [hv] at hown ⊢;clear hv;rw [List.length_map] at hcp hown ⊢;have HP := Veil.mk hcellp; clear hcellp;have hneg : ¬ (0 : Int) ≤ 56 - 8 * (j : Int) := by omega
     go_wp2_with (go_at_call 157; refine (Zat _).mono ?_; rintro e w2 ⟨vh, rfl, ownh, hb2⟩)
     have hbB := Veil.mk (hb.trans (hb2.mono hle));have hownh := Veil.mk (ownh.less hle);have Hown2 := Veil.mk (hown.below hb2 (Nat.le_refl _));have hs2 := hb2.size;clear hown hb ownh hb2 HP;go_loopw [6, 7] (fun v i wr => ∃ (m gh ch : Nat), v = .slice (some ⟨gh, 0, none⟩) 8 ch ∧ 64 * m ≤ P.length ∧ i = .int .i64 (64 * (m : Int)) ∧ Veil (Ao wr w.heap.size 164 1 (.slice (some ⟨gh, 0, none⟩) 8 ch) ((Bq P BA m).list.map Ag)) ∧ Veil (Ao wr w.heap.size 5 1 (.slice (some ⟨gp, 0, none⟩) P.length cp) (P.map w8)) ∧ Veil (Below w.heap.size w wr)) (fun _ i _ => P.length - (intOf i).toNat)
     case atStart =>
      obtain ⟨gh, ch, hv, _⟩ := hownh.out.form (by show 0 < 8; omega)
      subst hv;exact ⟨0, gh, ch, rfl, by omega, rfl, hownh, Hown2, hbB⟩
     case round =>
      clear hownh Hown2 hbB hle hs2 hgp hbp;obtain ⟨m, gh, ch, rfl, hm, rfl, Hown, HownP, HB⟩ := hrel;have hle := HB.out.size;obtain ⟨gh', ch', hv, hch, hbh, hgh, hcellh⟩ := Hown.out.form (by rw [List.length_map, Ik]; omega)
      obtain ⟨rfl, rfl⟩ : gh = gh' ∧ ch = ch' := by
       simp only [Value.slice.injEq, Option.some.injEq, Addr.mk.injEq] at hv;exact ⟨hv.1.1, hv.2.2⟩
      clear hv;rw [List.length_map, Ik] at hch;have CH := Veil.mk (KQ hcellh); clear hcellh;by_cases hlt : 64 * m < P.length
      ·have h64 : 64 * m + 64 ≤ P.length := by omega
       obtain ⟨gp', cp', hv, _, hbp, hgp, hcellp⟩ := HownP.out.form (by rw [List.length_map]; exact hP0)
       obtain ⟨rfl, rfl⟩ : gp = gp' ∧ cp = cp' := by
        simp only [Value.slice.injEq, Option.some.injEq, Addr.mk.injEq] at hv;exact ⟨hv.1.1, hv.2.2⟩
       clear hv;have CP : Veil (∀ j, j < 64 → wr.cell? ⟨gp, 64 * m + j, none⟩ = some (w8 (((P.drop (64 * m)).take 64).getD j 0))) := ⟨fun j hj => hcellp _ _ (by
        rw [List.getElem?_map, List.getElem?_eq_getElem (by omega), List.getD_eq_getElem?_getD, List.getElem?_take_of_lt hj, List.getElem?_drop, List.getElem?_eq_getElem (by omega)]; rfl)⟩
       clear hcellp;have hbl : ((P.drop (64 * m)).take 64).length = 64 := by rw [List.length_take, List.length_drop]; omega
       have Hbl := Veil.mk hbl; clear hbl;have hcap : 64 * m < cp := by omega
       have hcap1 : (64 : Int) * (m : Int) < cp := by omega
       have hcap2 : (64 : Int) * (m : Int) + 64 ≤ cp := by omega
       have hcap3 : ¬ (cp = 64 * m) := by omega
       have hcap4 : 64 ≤ cp - 64 * m := by omega
       go_wp2_with (go_at_call 158; go_loud (refine (Zac (Bq P BA m) gh ch gp (64 * m) (cp - 64 * m) ((P.drop (64 * m)).take 64) _ CH.out hgh hch CP.out Hbl.out hcap4 hgp).mono ?_); rintro e w' ⟨v', rfl, ownv, hb'⟩)
       have hab : Bq P BA (m + 1) = Fb (Bq P BA m) ((P.drop (64 * m)).take 64) := rfl;have Hab := Veil.mk hab; clear hab;have ownv2 : Veil (Ao w' w.heap.size 164 1 v' ((Bq P BA (m + 1)).list.map Ag)) := ⟨by rw [Hab.out]; exact ownv.less hle⟩
       have HownP2 := Veil.mk (HownP.out.below hb' (Nat.le_refl _));have HB2 := Veil.mk (HB.out.trans (hb'.mono hle));clear ownv hb' Hown HownP HB CP CH;obtain ⟨gh2, ch2, hv, _⟩ := ownv2.out.form (by rw [List.length_map, Ik]; omega)
       subst hv;go_roundw
       case rel => exact ⟨m + 1, gh2, ch2, rfl, by omega, by go_num, ownv2, HownP2, HB2⟩
       case measure => simp [intOf]; omega
      ·have hm64 : ¬ (64 : Int) * (m : Int) < P.length := by omega
       have hfin : I2 l = Bq P BA m := by
        rw [← Hst.out];congr 1
        omega
       have Hfin := Veil.mk hfin; clear hfin;generalize Bq P BA m = st at Hfin CH Hown;clear HownP;go_wp2
       go_loopw [8, 9] (fun v i wx => ∃ k : Nat, k ≤ 32 ∧ i = .int .i64 k ∧ Ao wx wr.heap.size 5 1 v ((FD st k).map w8) ∧ Below wr.heap.size wr wx) (fun _ i _ => 32 - (intOf i).toNat)
       case atStart => exact ⟨0, by omega, rfl, Ao.nil _ _ _ _, Below.refl _ _⟩
       case round =>
        obtain ⟨k, hk, rfl, hown, hb⟩ := hrel;have hle := hb.size;by_cases hlt : k < 32
        ·have ch4 := (hb.cell (p := ⟨gh, k / 4, none⟩) hgh).trans (CH.out (k / 4) (by rw [Ik]; omega))
         have hsn := ZbD st k;generalize st.list.getD (k / 4) 0 = x at ch4 hsn;have Hsn := Veil.mk hsn; clear hsn;have q0 : 0 ≤ (k : Int) / 4 := by omega
         have q1 : (k : Int) / 4 < 8 := by omega
         have q2 : ((k : Int) / 4).toNat = k / 4 := by omega
         have q3 : 8 * ((k : Int) % 4) ≤ 24 := by omega
         have q4 : (24 - 8 * ((k : Int) % 4)).toNat = 24 - 8 * (k % 4) := by omega
         have Hlen := Veil.mk (ZbE st k);go_wp2_with (at_builtin; refine G8 wr rfl _ _ _ rfl FO [_] hown rfl rfl ?_ ?_ ?_ hle ?_; rotate_left 3; intro v' w' own' gr')
         rotate_left 1
         ·exact F6 rfl
         ·rw [List.length_map, Hlen.out]; simp only [List.length_singleton]; omega
         ·rw [List.length_map, Hlen.out]; simp only [List.length_singleton]; omega
         have own2 := own';rw [show ∀ y, (FD st k).map w8 ++ [w8 y] = ((FD st k) ++ [y]).map w8 from fun y => by rw [List.map_append]; rfl, ← Hsn.out] at own2
         have hb' := FR hb gr' hown (Nat.le_refl _) hle;clear own' gr' hown hb q0 q1 q2 q3 q4;go_roundw
         case rel => exact ⟨k + 1, by omega, by go_num, own2, hb'⟩
         case measure => simp [intOf]; omega
        ·obtain rfl : k = 32 := by omega
         have hc := LX (P := Tryz.prog) wr 86 9 5 Tryz.underlying86 Tryz.underlying5 Tryz.underlying9 hown.rd;have hfin : (FD st 32) = sha l := by rw [ZbF, sha, Hfin.out]
         have Hfin2 := Veil.mk hfin; clear hfin;have HBf := Veil.mk (HB.out.trans (hb.mono HB.out.size));go_wp2
         go_ret
         exact ⟨by rw [Hs0.out, ← Hfin2.out]; rfl, HBf.out⟩
end
end
section
namespace Pe
open Tryz
open Go Go.RowKit Sm
instance tabs : Tab := ⟨fun b i => if b = 1 ∧ i < 64 then some (Ag (Ed.getD i 0)) else if b = 0 ∧ i < 8 then some (Ag (BA.list.getD i 0)) else none⟩
theorem C2.of {w : World} {g : Gh} (h : JF w g) : C2 w := by
 refine ⟨fun i hi => (h 1 i _ ?_).2, fun i hi => (h 0 i _ ?_).2⟩
 ·show (if _ then _ else _) = _
  rw [if_pos ⟨rfl, hi⟩]
 ·show (if _ then _ else _) = _
  rw [if_neg (fun e => absurd e.1 (by decide)), if_pos ⟨rfl, hi⟩]
theorem JX (l : List UInt8) (h : l.length ≤ 70368744177664) : AC prog 66 [.st l] [] (.st (sha l)) [] := by
 refine AC.ofBelow (by kernel_rfl) fun w g cargs ht hargs => ?_
 rw [Jh hargs];refine (Zn ⟨l.toArray⟩ w (by simp [ByteArray.size]; omega) (C2.of ht)).mono ?_
 rintro r w' ⟨rfl, hb⟩
 refine ⟨_, rfl, fun g' => ?_, hb⟩
 exact .st g' _
theorem I7 (l : List UInt8) (h : l.length ≤ 70368744177664) : AC prog 93 [.st l] [] (.st (sha l)) [] := by
 refine AC.ofBelow (by kernel_rfl) fun w g cargs ht hargs => ?_
 rw [Jh hargs];refine (ZN ⟨l.toArray⟩ w (by simp [ByteArray.size]; omega)).mono ?_
 rintro r w' ⟨rfl, hb⟩
 refine ⟨_, rfl, fun g' => ?_, hb⟩
 exact .st g' _
end Pe
end
section
section
open Go Go.RowKit Dm
def bl : Value → Option Nat
  | .slice (some a) _ (_ + 1) => some a.block
  | _ => none
theorem G5 (b n c : Nat) (hc : 0 < c) : bl (.slice (some ⟨b, 0, none⟩) n c) = some b := by
  obtain ⟨c, rfl⟩ := Nat.exists_eq_succ_of_ne_zero (Nat.ne_of_gt hc);rfl
theorem ZeY (A : Option Addr) (n : Nat) : bl (.slice A n 0) = none := by cases A <;> rfl
def BC (w : World) (v : Value) (l : List UInt8) : Prop :=
  (∃ A, v = .slice A 0 0 ∧ l = []) ∨ ∃ b cap, v = .slice (some ⟨b, 0, none⟩) l.length cap ∧ 0 < cap ∧ Ao w 0 5 1 v (l.map w8)
section
variable {w w' : World} {v : Value} {l : List UInt8}
theorem BC.nil (w : World) : BC w (.slice none 0 0) [] := .inl ⟨none, rfl, rfl⟩
theorem BC.block (h : BC w v l) : ∀ b, bl v = some b → b < w.heap.size := by
  rcases h with ⟨A, rfl, _⟩ | ⟨b, cap, rfl, hc, hown⟩
  · intro b h; rw [ZeY] at h; cases h
  · intro b' h
    rw [G5 _ _ _ hc] at h;cases h
    exact (hown.block b rfl).2
theorem BC.keep (h : BC w v l) (hk : ∀ b, bl v = some b → w'.heap[b]? = w.heap[b]?) : BC w' v l := by
  rcases h with h | ⟨b, cap, rfl, hc, hown⟩
  · exact .inl h
  · refine .inr ⟨b, cap, rfl, hc, hown.keep fun g hg => ?_⟩
    have : b = g := by simpa [Value.ownBlock] using hg
    subst this;exact hk _ (G5 _ _ _ hc)
theorem BC.rd (h : BC w v l) : Rd w w.heap.size 1 v (l.map w8) := by
  rcases h with ⟨A, rfl, rfl⟩ | ⟨b, cap, rfl, hc, hown⟩
  · exact ⟨A, 0, 0, rfl, Nat.le_refl _, by simp, fun h => absurd h (by omega)⟩
  · exact hown.rd
theorem BC.form (h : BC w v l) : ∃ A c, v = .slice A l.length c ∧ l.length ≤ c := by
  obtain ⟨A, c, h1, h2⟩ := h.rd.len;rw [List.length_map] at h1 h2;exact ⟨A, c, h1, h2⟩
theorem BC.take {A : Option Addr} {c : Nat} (h : BC w (.slice A l.length c) l) (n : Nat) (hn : n ≤ l.length) : BC w (.slice A n c) (l.take n) := by
  rcases h with ⟨A', h, rfl⟩ | ⟨b, cap, h, hc, hown⟩
  · simp only [Value.slice.injEq] at h
    obtain ⟨rfl, _, rfl⟩ := h
    have : n = 0 := by simpa using hn
    subst this;exact .inl ⟨A, rfl, by simp⟩
  · simp only [Value.slice.injEq] at h
    obtain ⟨rfl, _, rfl⟩ := h;refine .inr ⟨b, c, by rw [List.length_take, Nat.min_eq_left hn], hc, ?_⟩
    rcases hown with ⟨h, _⟩ | ⟨g, n', cap, cur, fr, h, hb, hg, hfr, hnc, hcm, hcs, hl, htake⟩
    · cases h
    · simp only [Value.slice.injEq, Option.some.injEq, Addr.mk.injEq] at h
      obtain ⟨⟨rfl, _⟩, rfl, rfl⟩ := h;refine .inr ⟨b, n, c, cur, fr, rfl, hb, hg, hfr, by omega, hcm, hcs, by simp; omega, ?_⟩
      rw [Nat.mul_one] at htake ⊢;rw [List.map_take, ← htake, List.take_take, Nat.min_eq_left hn]
theorem BC.bl_take (A : Option Addr) (n m c : Nat) : bl (.slice A n c) = bl (.slice A m c) := by
  cases A <;> cases c <;> rfl
end
def Kp (w : World) (v : Value) (ks : List Int) : Prop :=
  ∃ A c, v = .slice A ks.length c ∧ ks.length ≤ c ∧ (0 < ks.length → ∃ b o, A = some ⟨b, o, none⟩ ∧ ∀ j, j < ks.length → w.cell? ⟨b, o + j, none⟩ = some (.int .i64 (ks.getD j 0)))
theorem Kp.nil (w : World) : Kp w (.slice none 0 0) [] := ⟨none, 0, rfl, Nat.le_refl _, fun h => absurd h (by simp)⟩
theorem Kp.keep {w w' : World} {v : Value} {ks : List Int} (h : Kp w v ks) (hk : ∀ b, bl v = some b → w'.heap[b]? = w.heap[b]?) : Kp w' v ks := by
  obtain ⟨A, c, rfl, hc, hr⟩ := h;refine ⟨A, c, rfl, hc, fun h0 => ?_⟩
  obtain ⟨b, o, rfl, h⟩ := hr h0;refine ⟨b, o, rfl, fun j hj => ?_⟩
  have hb : bl (.slice (some ⟨b, o, none⟩) ks.length c) = some b := by
    obtain ⟨c', rfl⟩ := Nat.exists_eq_succ_of_ne_zero (show c ≠ 0 by omega)
    rfl
  rw [World.cell?_of_block (hk b hb)]
  exact h j hj
theorem Kp.block {w : World} {v : Value} {ks : List Int} (h : Kp w v ks) (h0 : 0 < ks.length) : ∃ b, bl v = some b ∧ b < w.heap.size := by
  obtain ⟨A, c, rfl, hc, hr⟩ := h;obtain ⟨b, o, rfl, h⟩ := hr h0;have := World.block_lt_of_cell? w _ (h 0 h0);refine ⟨b, ?_, this⟩
  obtain ⟨c', rfl⟩ := Nat.exists_eq_succ_of_ne_zero (show c ≠ 0 by omega)
  rfl
def Dr (vs : Nat → Value) (kv : Value) (d : Dk) (j : Nat) : Value :=
  if j < 16 then (if j % 2 = 0 then vs (j / 2) else .int .i64 ((d.fs (j / 2)).dur : Int)) else
  if j = 16 then .bool d.down else if j = 17 then .int .i64 (d.lost : Int) else if j = 18 then .int .i64 (d.armed : Int) else kv
theorem KR (vs : Nat → Value) (kv : Value) (d : Dk) (i : Nat) (h : i < 8) : Dr vs kv d (i * 2) = vs i := by
  unfold Dr;rw [if_pos (by omega), if_pos (by omega), show i * 2 / 2 = i from by omega]
theorem Vw (vs : Nat → Value) (kv : Value) (d : Dk) (i : Nat) (h : i < 8) : Dr vs kv d (i * 2 + 1) = .int .i64 ((d.fs i).dur : Int) := by
  unfold Dr;rw [if_pos (by omega), if_neg (by omega), show (i * 2 + 1) / 2 = i from by omega]
structure Rows3 (w : World) (S : Nat → Prop) (g : Nat) (vs : Nat → Value) (kv : Value) (d : Dk) : Prop where
  head : S g
  fil : ∀ i, i < 8 → BC w (vs i) (d.fs i).data
  own : ∀ i b, i < 8 → bl (vs i) = some b → S b ∧ b ≠ g
  apart : ∀ i j b, i < 8 → j < 8 → i ≠ j → bl (vs i) = some b → bl (vs j) ≠ some b
  kp : Kp w kv d.keep
  kown : ∀ b, bl kv = some b → S b ∧ b ≠ g
  kapart : ∀ i b, i < 8 → bl (vs i) = some b → bl kv ≠ some b
  klt : ∀ b, bl kv = some b → b < w.heap.size
def Am (w : World) (S : Nat → Prop) (g : Nat) (d : Dk) : Prop :=
  ∃ vs kv, w.rowIs g 91 20 (Dr vs kv d) ∧ Rows3 w S g vs kv d
end
section
open Go Go.RowKit Dm
structure Fr (S : Nat → Prop) (w w' : World) : Prop where
  os : w'.os = w.os
  tape : w'.tape = w.tape
  output : w'.output = w.output
  size : w.heap.size ≤ w'.heap.size
  block : ∀ b, b < w.heap.size → ¬ S b → w'.heap[b]? = w.heap[b]?
section
variable {S : Nat → Prop} {w w' w'' : World} {g : Nat} {d : Dk}
theorem Fr.refl (S : Nat → Prop) (w : World) : Fr S w w := ⟨rfl, rfl, rfl, Nat.le_refl _, fun _ _ _ => rfl⟩
theorem Fr.trans (h : Fr S w w') (h' : Fr S w' w'') : Fr S w w'' :=
  ⟨h'.os.trans h.os, h'.tape.trans h.tape, h'.output.trans h.output, Nat.le_trans h.size h'.size, fun b hb hS => (h'.block b (Nat.lt_of_lt_of_le hb h.size) hS).trans (h.block b hb hS)⟩
theorem Fr.drewN (w : World) (n : Nat) : Fr S w (w.drewN n) := ⟨rfl, rfl, rfl, Nat.le_refl _, fun _ _ _ => rfl⟩
theorem Fr.setCell {p : Addr} (hp : S p.block) (u : Value) : Fr S w (w.setCell p u) :=
  ⟨rfl, rfl, rfl, by simp, fun b _ hS => Below.heap_setCell w p u b (fun e => hS (by rw [e]; exact hp))⟩
theorem Fr.alloc (w : World) (o : Obj) : Fr S w (w.alloc o) := ⟨rfl, rfl, rfl, by simp, fun b hb _ => heap_alloc_old w o hb⟩
theorem Fr.grown {row : Option Nat} (h : w.grownBy w' row) (hr : ∀ b, row = some b → S b) : Fr S w w' :=
  ⟨h.os, h.tape, h.output, h.size, fun b hb hS => h.block b hb (fun e => hS (hr b e.symm))⟩
theorem Fr.more {S' : Nat → Prop} (h : Fr S w w') (hS : ∀ b, S b → S' b) : Fr S' w w' := ⟨h.os, h.tape, h.output, h.size, fun b hb hn => h.block b hb (fun hs => hn (hS b hs))⟩
theorem Am.more {S' : Nat → Prop} (h : Am w S g d) (hS : ∀ b, S b → S' b) : Am w S' g d := by
  obtain ⟨vs, kv, hr, h⟩ := h;exact ⟨vs, kv, hr, hS _ h.head, h.fil, fun i b hi hb => ⟨hS _ (h.own i b hi hb).1, (h.own i b hi hb).2⟩, h.apart, h.kp, fun b hb => ⟨hS _ (h.kown b hb).1, (h.kown b hb).2⟩, h.kapart, h.klt⟩
theorem Zt {w w' : World} {b : Nat} (h : w'.heap[b]? = w.heap[b]?) (hb : b < w.heap.size) : b < w'.heap.size := by
  rw [Array.getElem?_eq_getElem hb] at h
  exact (Array.getElem?_eq_some_iff.1 h).1
theorem Am.keep (h : Am w S g d) (hk : ∀ b, S b → b < w.heap.size → w'.heap[b]? = w.heap[b]?) : Am w' S g d := by
  obtain ⟨vs, kv, hr, h⟩ := h;exact ⟨vs, kv, hr.of_block (hk _ h.head hr.lt), h.head, fun i hi => (h.fil i hi).keep fun b hb => hk b (h.own i b hi hb).1 ((h.fil i hi).block b hb), h.own, h.apart, h.kp.keep fun b hb => hk b (h.kown b hb).1 (h.klt b hb), h.kown, h.kapart, fun b hb => Zt (hk b (h.kown b hb).1 (h.klt b hb)) (h.klt b hb)⟩
theorem Am.drewN (h : Am w S g d) (n : Nat) : Am (w.drewN n) S g d := h.keep fun _ _ _ => rfl
theorem Am.alloc (h : Am w S g d) (o : Obj) : Am (w.alloc o) S g d := h.keep fun _ _ hb => heap_alloc_old w o hb
end
end
section
open Go Go.RowKit Dm Go.Lib
theorem NJ (s : ByteArray) : strCells s = s.data.toList.map w8 := rfl
theorem BC.append {P : Program} {w : World} {v : Value} {l : List UInt8} (h : BC w v l) (t u ty : TypeId) (ht : P.underlying t = some (.slice 5)) (hu : P.underlying u = some .string)
    (hE : DY P t 5 1 1) (hz : ∀ i, P.info? 5 = some i → i.zero = some (.int .u8 0)) (s : ByteArray) (hb : l.length + s.size ≤ 140737488355328) :
    ∃ v' w', (Builtin.append_ #[t, u] ty #[v, .string s]).run P w = .ok v' w' ∧ BC w' v' (l ++ s.data.toList) ∧ w.grownBy w' (bl v) ∧ (bl v' = bl v ∨ bl v' = some w.heap.size) := by
  obtain ⟨_, _, i, z, hi, hz', hs1, hby, hzs⟩ := hE;have hz := hz i hi;have hsz : s.data.toList.length = s.size := by simp
  have grow : ∀ (xs : List UInt8) (old : Nat), xs.length = l.length → xs = l → 0 < s.size → BC (w.drew.alloc (.cells ((xs.map w8).toArray ++ (strCells s).toArray ++ Builtin.zeroCells (Value.int .u8 0).cells (grownCap w (l.length + s.size) old 5 - (l.length + s.size))) 5))
      (.slice (some ⟨w.heap.size, 0, none⟩) (l.length + s.size) (grownCap w (l.length + s.size) old 5)) (l ++ s.data.toList) := by
    intro xs old hxl hx h0;subst hx;have hge := grownCap_ge w (xs.length + s.size) old 5;have hcm : grownCap w (xs.length + s.size) old 5 ≤ maxLen := grownCap_le_maxLen w (xs.length + s.size) old 5 (by simp only [maxLen]; omega)
    have hlen : (xs ++ s.data.toList).length = xs.length + s.size := by rw [List.length_append, hsz]
    refine .inr ⟨w.heap.size, _, by rw [hlen], by omega, .inr ⟨w.heap.size, _, _, _, (0, 0), rfl, Nat.zero_le _, heap_alloc_new w.drew _, .inl (by simp), hge, hcm, ?_, by rw [List.length_map, hlen, Nat.mul_one], ?_⟩⟩
    · have hz1 : (Value.int IntKind.u8 0).cells.size = 1 := rfl
      simp only [Array.size_append, List.size_toArray, size_zeroCells, hz1, List.length_map, strCells_length];omega
    · simp only [Array.toList_append, List.append_assoc, NJ]
      rw [← List.append_assoc, ← List.map_append, Nat.mul_one, ← hlen, ← List.length_map (f := w8)];exact List.take_left
  have gr : ∀ o, w.grownBy (w.drew.alloc o) (bl v) := fun o => ⟨rfl, rfl, rfl, by simp, fun k hk _ => heap_alloc_old w.drew _ hk⟩
  rcases Nat.eq_zero_or_pos s.size with h0 | h0
  · have hs0 : s.data.toList = [] := List.eq_nil_of_length_eq_zero (by omega)
    have hsc : strCells s = [] := by rw [NJ, hs0]; rfl
    have hf := run_firstCells_string (P := P) w 1 s;rw [hsc] at hf;refine ⟨v, w, ?_, by rw [hs0, List.append_nil]; exact h, ⟨rfl, rfl, rfl, Nat.le_refl _, fun _ _ _ => rfl⟩, .inl rfl⟩
    rw [h0] at hf;obtain ⟨A, c, rfl, hc⟩ := h.form;cases A <;> simp [Builtin.append_, run_underlying ht, run_underlying hu, sizeOf, typeInfo, hi, hs1, Builtin.lenOf, h0, hc, hf, storeCells]
  · rcases h with ⟨A, rfl, rfl⟩ | ⟨b, cap, rfl, hc, hown⟩
    · rcases A with _ | a
      · have hr := run_append_nil_string (P := P) w t u ty 5 i (.int .u8 0) ht hu hi hz s h0 (by simp at hb; omega) (by rw [hby]; simp at hb; omega)
        have hg := grow [] 0 rfl rfl h0;simp only [List.length_nil, Nat.zero_add] at hg hr;refine ⟨_, _, hr, ?_, gr _, .inr (G5 _ _ _ ?_)⟩
        · have e : (s.data.map (fun b => Value.int .u8 (b.toNat : Int))) = (([] : List UInt8).map w8).toArray ++ (strCells s).toArray := by
            apply Array.ext'
            simp [strCells]
          rw [e];exact hg
        · have := grownCap_ge w s.size 0 5; omega
      · have hr := run_append_grow_string (P := P) w t u ty 5 i (.int .u8 0) ht hu hi hz a 0 0 [] (by simp) (fun j v h => by simp at h) s (by omega) (by simp at hb; omega) (by rw [hby]; exact growslice_fits (by omega) (by simp at hb; omega))
        have hg := grow [] 0 rfl rfl h0;simp only [List.length_nil, Nat.zero_add] at hg hr;refine ⟨_, _, hr, hg, gr _, .inr (G5 _ _ _ ?_)⟩
        have := grownCap_ge w s.size 0 5; omega
    · have hown0 := hown
      rcases hown with ⟨h, _⟩ | ⟨g, n, cap', cur, fr, h, hbg, hg, hfr, hnc, hcm, hcs, hl, htake⟩
      · cases h
      · simp only [Value.slice.injEq, Option.some.injEq, Addr.mk.injEq] at h
        obtain ⟨⟨rfl, _⟩, rfl, rfl⟩ := h;simp only [Nat.mul_one] at hcs htake;have hlen : (l ++ s.data.toList).length = l.length + s.size := by rw [List.length_append, hsz]
        by_cases hroom : l.length + s.size ≤ cap
        · have hf := run_firstCells_string (P := P) w 1 s
          have hst := H4 (P := P) b l.length 5 fr (strCells s) 0 cur w hg hfr (by rw [strCells_length]; omega) (strCells_oneCell s)
          simp only [Nat.add_zero, strCells_length] at hst;have hr : (Builtin.append_ #[t, u] ty #[.slice (some ⟨b, 0, none⟩) l.length cap, .string s]).run P w =
              .ok (.slice (some ⟨b, 0, none⟩) (l.length + s.size) cap) (w.setRow b (cur.toList.take l.length ++ strCells s ++ cur.toList.drop (l.length + s.size)).toArray) := by
            simp [Builtin.append_, run_underlying ht, run_underlying hu, sizeOf, typeInfo, hi, hs1, Builtin.lenOf, hroom, hf, Addr.add_lit, hst]
          refine ⟨_, _, hr, .inr ⟨b, cap, by rw [hlen], hc, .inr ⟨b, _, cap, _, fr, rfl, Nat.zero_le _, setRow_heap w b cur _ _ _ hg, ?_, hroom, hcm, ?_, by rw [List.length_map, hlen, Nat.mul_one], ?_⟩⟩, ?_, .inl ?_⟩
          · rcases hfr with h | h
            · exact .inl h
            · refine .inr ?_
              simp only [List.size_toArray, List.length_append, List.length_take, List.length_drop, Array.length_toList, strCells_length];omega
          · simp only [List.size_toArray, List.length_append, List.length_take, List.length_drop, Array.length_toList, strCells_length]
            omega
          · rw [htake, NJ, ← List.map_append, Nat.mul_one, ← hlen, ← List.length_map (f := w8)]
            exact List.take_left
          · rw [G5 _ _ _ hc]
            exact ⟨rfl, rfl, rfl, by simp, fun k _ hk => setRow_other w b k _ (fun e => hk (by rw [e]))⟩
          · rw [G5 _ _ _ hc, G5 _ _ _ hc]
        · have holds : ∀ j u, (l.map w8)[j]? = some u → w.cell? ((⟨b, 0, none⟩ : Addr).add j) = some u := by
            intro j u hu;rw [Addr.add_lit];simp only [Nat.zero_add];rw [cell_of_row w b j cur 5 fr hg];rw [← htake, List.getElem?_take] at hu
            split at hu
            · simpa using hu
            · cases hu
          have hr := run_append_grow_string (P := P) w t u ty 5 i (.int .u8 0) ht hu hi hz ⟨b, 0, none⟩ l.length cap (l.map w8) (by rw [hs1]; simp) holds s (by omega) (by omega) (by rw [hby]; exact growslice_fits (by omega) (by omega))
          have hgw := grow l cap rfl rfl h0;refine ⟨_, _, hr, hgw, gr _, .inr (G5 _ _ _ ?_)⟩
          have := grownCap_ge w (l.length + s.size) cap 5; omega
end
end
section
section
open Go Go.RowKit Dm
section
variable {S : Nat → Prop} {w : World} {g : Nat} {d : Dk} {vs : Nat → Value} {kv : Value}
theorem Rows3.head' (h : Rows3 w S g vs kv d) (o : Nat) (u : Value) : Rows3 (w.setCell ⟨g, o, none⟩ u) S g vs kv d :=
  ⟨h.head, fun i hi => (h.fil i hi).keep fun b hb => Below.heap_setCell w _ u b (h.own i b hi hb).2, h.own, h.apart, h.kp.keep fun b hb => Below.heap_setCell w _ u b (h.kown b hb).2, h.kown, h.kapart, fun b hb => by simpa using h.klt b hb⟩
theorem Am.setDown (h : Am w S g d) (b : Bool) : Am (w.setCell ⟨g, 16, none⟩ (.bool b)) S g { d with down := b } := by
  obtain ⟨vs, kv, hr, h⟩ := h;refine ⟨vs, kv, (hr.set 16 (.bool b)).congr fun j hj => ?_, ?_⟩
  · show (if j = 16 then _ else _) = _
    by_cases h : j = 16
    · subst h; rfl
    · rw [if_neg h]; unfold Dr; simp only [if_neg h]
  · have h := h.head' 16 (.bool b)
    exact ⟨h.head, h.fil, h.own, h.apart, h.kp, h.kown, h.kapart, h.klt⟩
theorem Am.setLost (h : Am w S g d) (n : Nat) : Am (w.setCell ⟨g, 17, none⟩ (.int .i64 (n : Int))) S g { d with lost := n } := by
  obtain ⟨vs, kv, hr, h⟩ := h;refine ⟨vs, kv, (hr.set 17 (.int .i64 (n : Int))).congr fun j hj => ?_, ?_⟩
  · show (if j = 17 then _ else _) = _
    by_cases h : j = 17
    · subst h; rfl
    · rw [if_neg h]; unfold Dr; simp only [if_neg h]
  · have h := h.head' 17 (.int .i64 (n : Int))
    exact ⟨h.head, h.fil, h.own, h.apart, h.kp, h.kown, h.kapart, h.klt⟩
theorem Am.setArmed (h : Am w S g d) (n : Nat) : Am (w.setCell ⟨g, 18, none⟩ (.int .i64 (n : Int))) S g { d with armed := n } := by
  obtain ⟨vs, kv, hr, h⟩ := h;refine ⟨vs, kv, (hr.set 18 (.int .i64 (n : Int))).congr fun j hj => ?_, ?_⟩
  · show (if j = 18 then _ else _) = _
    by_cases h : j = 18
    · subst h; rfl
    · rw [if_neg h]; unfold Dr; simp only [if_neg h]
  · have h := h.head' 18 (.int .i64 (n : Int))
    exact ⟨h.head, h.fil, h.own, h.apart, h.kp, h.kown, h.kapart, h.klt⟩
theorem Am.setKeep (h : Am w S g d) {kv' : Value} {ks : List Int} (hk : Kp w kv' ks) (hlt : ∀ b, bl kv' = some b → b < w.heap.size) (hb : ∀ b, bl kv' = some b → S b ∧ b ≠ g ∧ ∀ vs kv, Rows3 w S g vs kv d → ∀ i, i < 8 → bl (vs i) ≠ some b) : Am (w.setCell ⟨g, 19, none⟩ kv') S g { d with keep := ks } := by
  obtain ⟨vs, kv, hr, h⟩ := h;refine ⟨vs, kv', (hr.set 19 kv').congr fun j hj => ?_, ?_⟩
  · show (if j = 19 then _ else _) = _
    by_cases h : j = 19
    · subst h; rfl
    · rw [if_neg h]
      unfold Dr;split
      · rfl
      split
      · rfl
      split
      · rfl
      split
      · rfl
      · omega
  · have h' := h.head' 19 kv'
    exact ⟨h'.head, h'.fil, h'.own, h'.apart, hk.keep fun b hbb => Below.heap_setCell w _ kv' b (hb b hbb).2.1, fun b hbb => ⟨(hb b hbb).1, (hb b hbb).2.1⟩, fun i b hi hv hkv => (hb b hkv).2.2 vs kv h i hi hv, fun b hbb => by simpa using hlt b hbb⟩
theorem Am.setKeepNil (h : Am w S g d) : Am (w.setCell ⟨g, 19, none⟩ (.slice none 0 0)) S g { d with keep := [] } :=
  h.setKeep (Kp.nil w) (fun b hb => by cases hb) fun b hb => by cases hb
theorem Am.setDur (h : Am w S g d) (i : Nat) (hi : i < 8) (n : Nat) : Am (w.setCell ⟨g, i * 2 + 1, none⟩ (.int .i64 (n : Int))) S g { d with fs := upd d.fs i ⟨(d.fs i).data, n⟩ } := by
  obtain ⟨vs, kv, hr, h⟩ := h;refine ⟨vs, kv, (hr.set (i * 2 + 1) (.int .i64 (n : Int))).congr fun j hj => ?_, ?_⟩
  · show (if j = i * 2 + 1 then _ else _) = _
    by_cases h : j = i * 2 + 1
    · subst h
      rw [if_pos rfl, Vw _ _ _ _ hi];simp only [upd_same]
    · rw [if_neg h]
      unfold Dr;split
      · split
        · rfl
        · have : j / 2 ≠ i := by omega
          simp only [upd_ne _ this]
      · rfl
  · have h := h.head' (i * 2 + 1) (.int .i64 (n : Int))
    refine ⟨h.head, fun k hk => ?_, h.own, h.apart, h.kp, h.kown, h.kapart, h.klt⟩
    have := h.fil k hk;by_cases e : k = i
    · subst e; simp only [upd_same]; exact this
    · simp only [upd_ne _ e]; exact this
theorem Am.setData2 {w0 : World} (hr : w.rowIs g 91 20 (Dr vs kv d)) (h : Rows3 w0 S g vs kv d) (i : Nat) (hi : i < 8) (hfo : ∀ k, k < 8 → k ≠ i → BC w (vs k) (d.fs k).data) (hkp : Kp w kv d.keep) (hklt : ∀ b, bl kv = some b → b < w.heap.size) {v : Value} {l : List UInt8} (hf : BC w v l)
    (hv : ∀ b, bl v = some b → bl (vs i) = some b ∨ (S b ∧ b ≠ g ∧ (∀ j, j < 8 → bl (vs j) ≠ some b) ∧ bl kv ≠ some b)) : Am (w.setCell ⟨g, i * 2, none⟩ v) S g { d with fs := upd d.fs i ⟨l, (d.fs i).dur⟩ } := by
  refine ⟨fun k => if k = i then v else vs k, kv, (hr.set (i * 2) v).congr fun j hj => ?_, ?_⟩
  · show (if j = i * 2 then _ else _) = _
    by_cases e : j = i * 2
    · subst e
      rw [if_pos rfl, KR _ _ _ _ hi, if_pos rfl]
    · rw [if_neg e]
      unfold Dr;split
      · split
        · exact (if_neg (show j / 2 ≠ i from by omega)).symm
        · by_cases e2 : j / 2 = i
          · rw [e2]; simp only [upd_same]
          · simp only [upd_ne _ e2]
      · rfl
  · have hvg : ∀ b, bl v = some b → b ≠ g := fun b hb => by
      rcases hv b hb with h1 | h1
      · exact (h.own i b hi h1).2
      · exact h1.2.1
    refine ⟨h.head, fun k hk => ?_, fun k b hk hb => ?_, fun j k b hj hk hjk hb hb' => ?_, hkp.keep fun b hb => Below.heap_setCell w _ v b (h.kown b hb).2, h.kown, fun k b hk hb hkb => ?_, fun b hb => by simpa using hklt b hb⟩
    · by_cases e : k = i
      · subst e
        simp only [if_pos, upd_same];exact hf.keep fun b hb => Below.heap_setCell w _ v b (hvg b hb)
      · simp only [if_neg e, upd_ne _ e]
        exact (hfo k hk e).keep fun b hb => Below.heap_setCell w _ v b (h.own k b hk hb).2
    · by_cases e : k = i
      · subst e
        simp only [if_pos] at hb;rcases hv b hb with h1 | h1
        · exact h.own k b hk h1
        · exact ⟨h1.1, h1.2.1⟩
      · simp only [if_neg e] at hb
        exact h.own k b hk hb
    · by_cases e : j = i
      · subst e
        have e2 : k ≠ j := fun h => hjk h.symm
        simp only [if_pos, if_neg e2] at hb hb';rcases hv b hb with h1 | h1
        · exact h.apart j k b hj hk hjk h1 hb'
        · exact h1.2.2.1 k hk hb'
      · by_cases e2 : k = i
        · subst e2
          simp only [if_pos, if_neg e] at hb hb';rcases hv b hb' with h1 | h1
          · exact h.apart j k b hj hk hjk hb h1
          · exact h1.2.2.1 j hj hb
        · simp only [if_neg e, if_neg e2] at hb hb'
          exact h.apart j k b hj hk hjk hb hb'
    · by_cases e : k = i
      · subst e
        simp only [if_pos] at hb;rcases hv b hb with h1 | h1
        · exact h.kapart k b hk h1 hkb
        · exact h1.2.2.2 hkb
      · simp only [if_neg e] at hb
        exact h.kapart k b hk hb hkb
theorem Am.setData (hr : w.rowIs g 91 20 (Dr vs kv d)) (h : Rows3 w S g vs kv d) (i : Nat) (hi : i < 8) {v : Value} {l : List UInt8} (hf : BC w v l)
    (hv : ∀ b, bl v = some b → bl (vs i) = some b ∨ (S b ∧ b ≠ g ∧ (∀ j, j < 8 → bl (vs j) ≠ some b) ∧ bl kv ≠ some b)) : Am (w.setCell ⟨g, i * 2, none⟩ v) S g { d with fs := upd d.fs i ⟨l, (d.fs i).dur⟩ } :=
  Am.setData2 hr h i hi (fun k hk _ => h.fil k hk) h.kp h.klt hf hv
theorem Am.setTake (h : Am w S g d) (i : Nat) (hi : i < 8) (n : Nat) (hn : n ≤ (d.fs i).data.length) :
    ∃ A c, w.cell? ⟨g, i * 2, none⟩ = some (.slice A (d.fs i).data.length c) ∧ (d.fs i).data.length ≤ c ∧ Am (w.setCell ⟨g, i * 2, none⟩ (.slice A n c)) S g { d with fs := upd d.fs i ⟨(d.fs i).data.take n, (d.fs i).dur⟩ } := by
  obtain ⟨vs, kv, hr, h⟩ := h;obtain ⟨A, c, hv, hc⟩ := (h.fil i hi).form;refine ⟨A, c, ?_, hc, Am.setData hr h i hi ?_ ?_⟩
  · rw [hr.cell (by omega), KR _ _ _ _ hi, hv]
  · have := h.fil i hi
    rw [hv] at this;exact this.take n hn
  · intro b hb
    left
    rw [hv, BC.bl_take A _ n c];exact hb
theorem Am.appended {w' : World} (hr : w.rowIs g 91 20 (Dr vs kv d)) (h : Rows3 w S g vs kv d) (i : Nat) (hi : i < 8) {v : Value} {l : List UInt8} (hf : BC w' v l) (hg : w.grownBy w' (bl (vs i)))
    (hv : bl v = bl (vs i) ∨ bl v = some w.heap.size) (hS : S w.heap.size) :
    w'.cell? ⟨g, i * 2, none⟩ = some (vs i) ∧ w'.frozen? ⟨g, i * 2, none⟩ = false ∧ Am (w'.setCell ⟨g, i * 2, none⟩ v) S g { d with fs := upd d.fs i ⟨l, (d.fs i).dur⟩ } ∧ Fr S w (w'.setCell ⟨g, i * 2, none⟩ v) := by
  have hgl := hr.lt;have hkb := h.klt;have hr' : w'.rowIs g 91 20 (Dr vs kv d) := hr.of_block (hg.block g hgl fun e => (h.own i g hi e.symm).2 rfl)
  refine ⟨by rw [hr'.cell (by omega), KR _ _ _ _ hi], hr'.frozen _, ?_, ?_⟩
  · refine Am.setData2 hr' h i hi (fun k hk hne => (h.fil k hk).keep fun b hb => hg.block b ((h.fil k hk).block b hb) fun e => h.apart i k b hi hk (fun h => hne h.symm) e.symm hb) (h.kp.keep fun b hb => hg.block b (hkb b hb) fun e => h.kapart i b hi e.symm hb) (fun b hb => Nat.lt_of_lt_of_le (hkb b hb) hg.size) hf fun b hb => ?_
    rcases hv with hv | hv
    · left; rw [← hv]; exact hb
    · right
      have : b = w.heap.size := by rw [hv] at hb; exact (Option.some.inj hb).symm
      subst this;refine ⟨hS, by omega, fun j hj hb => ?_, fun hb => ?_⟩
      · have := (h.fil j hj).block _ hb; omega
      · have := hkb _ hb; omega
  · exact (Fr.grown hg fun b hb => (h.own i b hi hb).1).trans (Fr.setCell (p := ⟨g, i * 2, none⟩) h.head _)
end
end
end
section
section
open Go.RowKit Dm
theorem Gd (f : Int) (w : World) : Calls Tryz.prog 129 #[.int .i64 f] w fun e w' => e = .returned (.bool (kn f)) ∧ w = w' := by
  have e1 : 0 ≤ f → kn f = decide (f < 8) := fun h => by unfold kn; rw [decide_eq_true h]; rfl
  have e2 : f < 0 → kn f = false := fun h => by unfold kn; rw [decide_eq_false (show ¬ 0 ≤ f from by omega)]; rfl
  have E1 := Veil.mk e1;have E2 := Veil.mk e2;clear e1 e2;by_cases h1 : 0 ≤ f
  · go_enter Tryz.func129, Tryz.ntmps129
    go_wp2
    go_ret
    exact ⟨by rw [E1.out h1]; rfl, rfl⟩
  · have h2 : f < 0 := by omega
    go_enter Tryz.func129, Tryz.ntmps129
    go_wp2
    go_ret
    exact ⟨by rw [E2.out h2]; rfl, rfl⟩
section
variable {S : Nat → Prop} {w : World} {g : Nat} {d : Dk}
theorem Am.cDown (h : Am w S g d) : w.cell? ⟨g, 16, none⟩ = some (.bool d.down) := by
  obtain ⟨vs, kv, hr, h⟩ := h; exact hr.cell (i := 16) (by omega)
theorem Am.cLost (h : Am w S g d) : w.cell? ⟨g, 17, none⟩ = some (.int .i64 (d.lost : Int)) := by
  obtain ⟨vs, kv, hr, h⟩ := h; exact hr.cell (i := 17) (by omega)
theorem Am.cArmed (h : Am w S g d) : w.cell? ⟨g, 18, none⟩ = some (.int .i64 (d.armed : Int)) := by
  obtain ⟨vs, kv, hr, h⟩ := h; exact hr.cell (i := 18) (by omega)
theorem Am.cKeep (h : Am w S g d) : ∃ kv, w.cell? ⟨g, 19, none⟩ = some kv ∧ Kp w kv d.keep ∧ ∀ b, bl kv = some b → b ≠ g := by
  obtain ⟨vs, kv, hr, h⟩ := h; exact ⟨kv, hr.cell (i := 19) (by omega), h.kp, fun b hb => (h.kown b hb).2⟩
theorem Am.cDur (h : Am w S g d) (i : Nat) (hi : i < 8) : w.cell? ⟨g, i * 2 + 1, none⟩ = some (.int .i64 ((d.fs i).dur : Int)) := by
  obtain ⟨vs, kv, hr, h⟩ := h; rw [hr.cell (by omega), Vw _ _ _ _ hi]
theorem Am.cData (h : Am w S g d) (i : Nat) (hi : i < 8) : ∃ A c, w.cell? ⟨g, i * 2, none⟩ = some (.slice A (d.fs i).data.length c) ∧ (d.fs i).data.length ≤ c ∧ BC w (.slice A (d.fs i).data.length c) (d.fs i).data := by
  obtain ⟨vs, kv, hr, h⟩ := h;obtain ⟨A, c, hv, hc⟩ := (h.fil i hi).form;refine ⟨A, c, ?_, hc, ?_⟩
  · rw [hr.cell (by omega), KR _ _ _ _ hi, hv]
  · rw [← hv]; exact h.fil i hi
theorem Am.free (h : Am w S g d) (j : Nat) : w.frozen? ⟨g, j, none⟩ = false := by
  obtain ⟨vs, kv, hr, h⟩ := h; exact hr.frozen j
theorem Am.at' (h : Am w S g d) : S g := by
  obtain ⟨vs, kv, hr, h⟩ := h; exact h.head
theorem Am.lt (h : Am w S g d) : g < w.heap.size := by
  obtain ⟨vs, kv, hr, h⟩ := h; exact hr.lt
theorem Kv {f : Int} (h : kn f = true) : ∃ n : Nat, f = (n : Int) ∧ n < 8 := by
  have hf : 0 ≤ f ∧ f < 8 := by simpa [kn] using h
  exact ⟨f.toNat, by omega, by omega⟩
theorem NP (h : Am w S g d) (f : Int) : Calls Tryz.prog 133 #[.pointer (some ⟨g, 0, none⟩), .int .i64 f] w fun e w' => e = .returned (.int .i64 (size d f : Int)) ∧ w = w' := by
  rcases hk : kn f
  · have hs : size d f = 0 := by unfold size; rw [hk]; rfl
    have Hs := Veil.mk hs;clear h hs;go_enter Tryz.func133, Tryz.ntmps133
    go_wp2_with (go_at_call 129; refine (Gd _ _).mono ?_; rintro e w1 ⟨rfl, rfl⟩)
    go_ret
    exact ⟨by rw [Hs.out]; rfl, rfl⟩
  · obtain ⟨n, rfl, hn⟩ := Kv hk
    have hs : size d (n : Int) = (d.fs n).data.length := by unfold size; rw [hk]; rfl
    have Hs := Veil.mk hs;obtain ⟨A, c, cn, hc, _⟩ := h.cData n hn;clear hs h;go_enter Tryz.func133, Tryz.ntmps133
    go_wp2_with (go_at_call 129; refine (Gd _ _).mono ?_; rintro e w1 ⟨rfl, rfl⟩)
    go_ret
    exact ⟨by rw [Hs.out]; rfl, rfl⟩
theorem ZaU (h : Am w S g d) (f : Int) : Calls Tryz.prog 69 #[.pointer (some ⟨g, 0, none⟩), .int .i64 f] w fun e w' => e = .returned (.tuple #[.string ⟨(peek d f).1.toArray⟩, .int .i64 (peek d f).2]) ∧ w = w' := by
  have c16 := h.cDown;rcases hd : d.down
  · rw [hd] at c16
    rcases hk : kn f
    · have hs : peek d f = ([], 1) := by unfold peek; rw [hk, hd]; rfl
      have Hs := Veil.mk hs;clear h hs hd;go_enter Tryz.func69, Tryz.ntmps69
      go_wp2_with (go_at_call 129; refine (Gd _ _).mono ?_; rintro e w1 ⟨rfl, rfl⟩)
      go_ret2
      exact ⟨by rw [Hs.out]; rfl, rfl⟩
    · obtain ⟨n, rfl, hn⟩ := Kv hk
      have hs : peek d (n : Int) = ((d.fs n).data, 0) := by unfold peek; rw [hk, hd]; rfl
      have Hs := Veil.mk hs;obtain ⟨A, c, cn, hc, hfil⟩ := h.cData n hn;have hrun := LX (P := Tryz.prog) w 86 9 5 Tryz.underlying86 Tryz.underlying5 Tryz.underlying9 hfil.rd;clear hs h hd hfil;go_enter Tryz.func69, Tryz.ntmps69
      go_wp2_with (go_at_call 129; refine (Gd _ _).mono ?_; rintro e w1 ⟨rfl, rfl⟩)
      go_ret2
      exact ⟨by rw [Hs.out]; rfl, rfl⟩
  · rw [hd] at c16
    have hs : peek d f = ([], 8) := by unfold peek; rw [hd]; rfl
    have Hs := Veil.mk hs;clear h hs hd;go_enter Tryz.func69, Tryz.ntmps69
    go_wp2
    go_ret2
    exact ⟨by rw [Hs.out]; rfl, rfl⟩
theorem YP (h : Am w S g d) : Calls Tryz.prog 18 #[.pointer (some ⟨g, 0, none⟩)] w fun e w' => e = .returned (.tuple #[]) ∧ Am w' S g (bring d) ∧ Fr (fun b => b = g) w w' := by
  have c16 := h.cDown;have f16 := h.free 16;have H := Veil.mk (And.intro (h.setDown false) (Fr.setCell (S := fun b => b = g) (w := w) (p := ⟨g, 16, none⟩) rfl (.bool false)))
  clear h;go_enter Tryz.func18, Tryz.ntmps18
  go_wp2
  go_end0
  exact ⟨rfl, H.out⟩
theorem Zcb (h : Am w S g d) (n : Int) (_hn : n ≤ 9223372036854775807) : Calls Tryz.prog 20 #[.pointer (some ⟨g, 0, none⟩), .int .i64 n] w fun e w' => e = .returned (.tuple #[]) ∧ Am w' S g (lose d n) ∧ Fr (fun b => b = g) w w' := by
  have c17 := h.cLost;have f17 := h.free 17;have H := Veil.mk (And.intro (h.setLost n.toNat) (Fr.setCell (S := fun b => b = g) (w := w) (p := ⟨g, 17, none⟩) rfl (.int .i64 (n.toNat : Int))))
  clear h;by_cases h0 : 0 ≤ n
  · have e : (n.toNat : Int) = n := by omega
    rw [e] at H;clear e;go_enter Tryz.func20, Tryz.ntmps20
    go_wp2
    go_end0
    first | exact ⟨rfl, H.out⟩ | (rw [show max n 0 = n from by omega]; exact ⟨rfl, H.out⟩)
  · have e : (n.toNat : Int) = 0 := by omega
    rw [e] at H;clear e;go_enter Tryz.func20, Tryz.ntmps20
    go_wp2
    go_end0
    first | exact ⟨rfl, H.out⟩ | (rw [show max n 0 = 0 from by omega]; exact ⟨rfl, H.out⟩)
theorem JT (h : Am w S g d) (ho : Ok d) : Calls Tryz.prog 168 #[.pointer (some ⟨g, 0, none⟩)] w fun e w' => e = .returned (.bool (strikes d).1) ∧ Am w' S g (strikes d).2 ∧ Fr (fun b => b = g) w w' := by
  have c18 := h.cArmed;have f18 := h.free 18;have hb := ho.armed;by_cases h0 : d.armed = 0
  · have e : strikes d = (false, d) := by unfold strikes; rw [if_pos h0]
    have H : Veil (Am w S g (strikes d).2 ∧ (strikes d).1 = false) := ⟨by rw [e]; exact ⟨h, rfl⟩⟩
    clear h e;rw [h0] at c18;clear h0 hb ho;go_enter Tryz.func168, Tryz.ntmps168
    go_wp2
    go_ret
    exact ⟨by rw [H.out.2]; rfl, H.out.1, Fr.refl _ _⟩
  · obtain ⟨n, hn⟩ : ∃ n, d.armed = n + 1 := ⟨d.armed - 1, by omega⟩
    have e : strikes d = (decide (n = 0), { d with armed := n }) := by
      unfold strikes;rw [if_neg h0, hn];simp
    have H1 := h.setArmed n;have c2 := H1.cArmed;have H : Veil (Am (w.setCell ⟨g, 18, none⟩ (.int .i64 (n : Int))) S g (strikes d).2 ∧ (strikes d).1 = decide (n = 0) ∧ Fr (fun b => b = g) w (w.setCell ⟨g, 18, none⟩ (.int .i64 (n : Int)))) := ⟨by rw [e]; exact ⟨H1, rfl, Fr.setCell (S := fun b => b = g) (p := ⟨g, 18, none⟩) rfl _⟩⟩
    clear h e H1;rw [hn] at c18 hb;have hn1 : (((n + 1 : Nat) : Int)) - 1 = (n : Int) := by omega
    clear hn h0 ho;go_enter Tryz.func168, Tryz.ntmps168
    go_wp2
    go_ret
    refine ⟨?_, H.out.1, H.out.2.2⟩
    rw [H.out.2.1];show Ending.returned (.bool ((n : Int) == 0)) = _
    rw [show ((n : Int) == 0) = decide (n = 0) from by by_cases h : n = 0 <;> simp [h]]
end
end
end
section
section
open Go.RowKit Dm
section
variable {S : Nat → Prop} {w : World} {g : Nat} {d : Dk}
theorem NB (h : Am w S g d) (i : Nat) (hi : i < 8) (n : Nat) (x : Int) (hn : n ≤ (d.fs i).data.length) (hx : x = (n : Int)) :
    Calls Tryz.prog 56 #[.pointer (some ⟨g, i * 2, none⟩), .int .i64 x] w fun e w' => e = .returned (.tuple #[]) ∧ Am w' S g { d with fs := upd d.fs i ((d.fs i).trunc n) } ∧ Fr (fun b => b = g) w w' := by
  subst hx;obtain ⟨A, c, cd, hc, h1⟩ := h.setTake i hi n hn;have f0 := h.free (i * 2);have fr1 : Fr (fun b => b = g) w (w.setCell ⟨g, i * 2, none⟩ (.slice A n c)) := Fr.setCell (S := fun b => b = g) (p := ⟨g, i * 2, none⟩) rfl _
  have c1 := h1.cDur i hi;simp only [upd_same] at c1;have f1 := h1.free (i * 2 + 1);have h2 := h1.setDur i hi (min (d.fs i).dur n);simp only [upd_same] at h2;have e2 : upd (upd d.fs i ⟨(d.fs i).data.take n, (d.fs i).dur⟩) i ⟨(d.fs i).data.take n, min (d.fs i).dur n⟩ = upd d.fs i ((d.fs i).trunc n) := by
    funext j
    unfold upd;split <;> rfl
  rw [e2] at h2;have H : ∀ q : Int, q = ((min (d.fs i).dur n : Nat) : Int) → Am ((w.setCell ⟨g, i * 2, none⟩ (.slice A n c)).setCell ⟨g, i * 2 + 1, none⟩ (.int .i64 q)) S g { d with fs := upd d.fs i ((d.fs i).trunc n) } ∧ Fr (fun b => b = g) w ((w.setCell ⟨g, i * 2, none⟩ (.slice A n c)).setCell ⟨g, i * 2 + 1, none⟩ (.int .i64 q)) := by
    intro q hq;subst hq;exact ⟨h2, fr1.trans (Fr.setCell (S := fun b => b = g) (p := ⟨g, i * 2 + 1, none⟩) rfl _)⟩
  have H := Veil.mk H;have hnc : (n : Int) ≤ c := by omega
  clear h h1 h2 e2 fr1;generalize (d.fs i).dur = m at c1 H;by_cases hm : m ≤ n
  · have hmi : ¬ (n : Int) < m := by omega
    go_enter Tryz.func56, Tryz.ntmps56
    go_wp2
    go_end0
    exact ⟨rfl, H.out _ (by omega)⟩
  · have hmi : (n : Int) < m := by omega
    go_enter Tryz.func56, Tryz.ntmps56
    go_wp2
    go_end0
    exact ⟨rfl, H.out _ (by omega)⟩
theorem Kp.keep2 {w w' : World} {v : Value} {ks : List Int} (h : Kp w v ks) (hk : ∀ b, bl v = some b → b < w.heap.size → w'.heap[b]? = w.heap[b]?) : Kp w' v ks := by
  obtain ⟨A, c, rfl, hc, hr⟩ := h;refine ⟨A, c, rfl, hc, fun h0 => ?_⟩
  obtain ⟨b, o, rfl, h⟩ := hr h0;refine ⟨b, o, rfl, fun j hj => ?_⟩
  have hb : bl (.slice (some ⟨b, o, none⟩) ks.length c) = some b := by
    obtain ⟨c', rfl⟩ := Nat.exists_eq_succ_of_ne_zero (show c ≠ 0 by omega)
    rfl
  have hlt := World.block_lt_of_cell? w _ (h 0 h0);rw [World.cell?_of_block (hk b hb hlt)]
  exact h j hj
theorem Kp.keep3 {w w' : World} {v : Value} {ks : List Int} (h : Kp w v ks) (hk : 0 < ks.length → ∀ b, bl v = some b → b < w.heap.size → w'.heap[b]? = w.heap[b]?) : Kp w' v ks := by
  by_cases h0 : 0 < ks.length
  · exact h.keep2 (hk h0)
  · obtain ⟨A, c, e, hc, _⟩ := h
    exact ⟨A, c, e, hc, fun h1 => absurd h1 h0⟩
theorem Kp.fr {w w' : World} {v : Value} {ks : List Int} {g : Nat} (h : Kp w v ks) (hb : 0 < ks.length → ∀ b, bl v = some b → b ≠ g) (hf : Fr (fun b => b = g) w w') : Kp w' v ks :=
  h.keep3 fun h0 b hv hlt => hf.block b hlt (hb h0 b hv)
def DU (d : Dk) (ks : List Int) (k : Nat) : Nat → Fl := fun j => if j < k then (d.fs j).crash (ks.getD j 0) else d.fs j
theorem KC (d : Dk) (ks : List Int) (k : Nat) : DU d ks k k = d.fs k := if_neg (Nat.lt_irrefl k)
theorem ZcP (d : Dk) (ks : List Int) (k : Nat) : DU d ks (k + 1) = upd (DU d ks k) k ((d.fs k).crash (ks.getD k 0)) := by
  funext j
  unfold DU upd;by_cases h : j = k
  · subst h; rw [if_pos (by omega), if_pos rfl]
  · rw [if_neg h]
    by_cases h2 : j < k
    · rw [if_pos (by omega)]; exact (if_pos h2).symm
    · rw [if_neg (by omega)]; exact (if_neg h2).symm
theorem Kp.at' {w : World} {A : Option Addr} {n c : Nat} {ks : List Int} (h : Kp w (.slice A n c) ks) (k : Nat) (hk : k < ks.length) : ∃ b o, A = some ⟨b, o, none⟩ ∧ w.cell? ⟨b, o + k, none⟩ = some (.int .i64 (ks.getD k 0)) := by
  obtain ⟨A', c', hv, hc, hr⟩ := h;simp only [Value.slice.injEq] at hv;obtain ⟨rfl, _, rfl⟩ := hv;obtain ⟨b, o, rfl, h⟩ := hr (by omega)
  exact ⟨b, o, rfl, h k hk⟩
theorem Am.congr {d' : Dk} (h : Am w S g d) (hf : ∀ i, i < 8 → d.fs i = d'.fs i) (h1 : d.down = d'.down) (h2 : d.lost = d'.lost) (h3 : d.armed = d'.armed) (h4 : d.keep = d'.keep) : Am w S g d' := by
  obtain ⟨vs, kv, hr, h⟩ := h;refine ⟨vs, kv, hr.congr fun j hj => ?_, h.head, fun i hi => by rw [← hf i hi]; exact h.fil i hi, h.own, h.apart, by rw [← h4]; exact h.kp, h.kown, h.kapart, h.klt⟩
  unfold Dr;split
  · split
    · rfl
    · rw [hf _ (by omega)]
  · rw [h1, h2, h3]
theorem Am.cLen (h : Am w S g d) (i : Nat) (hi : i < 8) (n : Nat) (hn : (d.fs i).data.length = n) : ∃ A c, w.cell? ⟨g, i * 2, none⟩ = some (.slice A n c) ∧ n ≤ c := by
  subst hn;obtain ⟨A, c, h1, h2, _⟩ := h.cData i hi;exact ⟨A, c, h1, h2⟩
theorem Zek (d : Dk) (ks : List Int) (k : Nat) (hok : (d.fs k).Ok) :
    (upd (DU d ks k) k ((DU d ks k k).trunc ((d.fs k).stay (ks.getD k 0))) k).data.length = (d.fs k).stay (ks.getD k 0) ∧
    upd (upd (DU d ks k) k ((DU d ks k k).trunc ((d.fs k).stay (ks.getD k 0)))) k ⟨(upd (DU d ks k) k ((DU d ks k k).trunc ((d.fs k).stay (ks.getD k 0))) k).data, (d.fs k).stay (ks.getD k 0)⟩ = DU d ks (k + 1) := by
  have h := Fl.stay_le hok (ks.getD k 0);constructor
  · rw [upd_same, KC]
    show ((d.fs k).data.take _).length = _
    rw [List.length_take]; omega
  · rw [ZcP, upd_same, KC]
    funext j
    unfold upd;split
    · rfl
    · rfl
set_option maxRecDepth 100000 in
set_option maxHeartbeats 1000000 in
theorem KL (h : Am w S g d) (ho : Ok d) (kv : Value) (ks : List Int) (hk : Kp w kv ks) (hb : 0 < ks.length → ∀ b, bl kv = some b → b ≠ g) :
    Calls Tryz.prog 16 #[.pointer (some ⟨g, 0, none⟩), kv] w fun e w' => e = .returned (.tuple #[]) ∧ Am w' S g (crash d ks) ∧ Fr (fun b => b = g) w w' := by
  have c16 := h.cDown;rcases hd : d.down
  · have hc : crash d ks = ⟨fun i => (d.fs i).crash (ks.getD i 0), true, d.lost, 0, []⟩ := by unfold crash; rw [hd]; rfl
    have Hc := Veil.mk hc; clear hc;rw [hd] at c16;have Hb := Veil.mk hb; clear hb;have Ho := Veil.mk ho; clear ho;obtain ⟨A, c, rfl, hkc, hkr⟩ := id hk;have hk0 := Veil.mk hk; clear hk hkr;have h0 : Veil (Am w S g { d with fs := DU d ks 0 }) := ⟨h⟩
    clear h;go_enter Tryz.func16, Tryz.ntmps16
    go_wp2
    clear c16;go_loopw [4, 5, 6, 11] (fun _ _ _ i wr => ∃ k : Nat, k ≤ 8 ∧ i = .int .i64 k ∧ Veil (Am wr S g { d with fs := DU d ks k }) ∧ Veil (Kp wr (.slice A ks.length c) ks) ∧ Veil (Fr (fun b => b = g) w wr)) (fun _ _ _ i _ => 8 - (intOf i).toNat)
    case atStart => exact ⟨0, by omega, rfl, h0, hk0, ⟨Fr.refl _ _⟩⟩
    case round =>
      clear h0 hk0;obtain ⟨k, hk, rfl, HD, HK, HF⟩ := hrel;by_cases hlt : k < 8
      · obtain ⟨A1, c1, cdat, hc1⟩ := HD.out.cLen k hlt (d.fs k).data.length (by simp only [KC])
        have cdur := HD.out.cDur k hlt;simp only [KC] at cdur;have hok := Ho.out.fs k;have hdl := hok.dur;have hll := hok.len;have hst := Fl.stay_le hok (ks.getD k 0);have hsd : (d.fs k).stay (ks.getD k 0) = (d.fs k).dur + min ((d.fs k).data.length - (d.fs k).dur) (ks.getD k 0).toNat := rfl;obtain ⟨cs1, cs2⟩ := Zek d ks k hok;have CS1 := Veil.mk cs1; have CS2 := Veil.mk cs2; clear cs1 cs2;have Hst : Veil ((d.fs k).stay (ks.getD k 0) ≤ (DU d ks k k).data.length) := ⟨by rw [KC]; exact hst⟩
        clear hok hst;generalize hS : (d.fs k).stay (ks.getD k 0) = st at hsd CS1 CS2 Hst;have HS := Veil.mk hS; clear hS;generalize (d.fs k).data.length = ln at *;generalize (d.fs k).dur = du at *;by_cases hkl : k < ks.length
        · obtain ⟨b, o, rfl, ck⟩ := HK.out.at' k hkl
          generalize ks.getD k 0 = q at *;have hcase : (0 < q ∧ q < (ln : Int) - (du : Int)) ∨ (0 < q ∧ ¬ q < (ln : Int) - (du : Int)) ∨ (¬ 0 < q ∧ 0 < (ln : Int) - (du : Int)) ∨ (¬ 0 < q ∧ ¬ 0 < (ln : Int) - (du : Int)) := by omega
          rcases hcase with ⟨hq, hm⟩ | ⟨hq, hm⟩ | ⟨hq, hm⟩ | ⟨hq, hm⟩
          all_goals
            have Hsd := Veil.mk hsd; clear hsd;go_wp2
            go_quiet (fail)
            have HDq := Veil.mk (HD.out.drewN nq);go_wp2_with (
              (go_at_call 56
               refine (NB HDq.out k hlt st _ Hst.out (by have := Hsd.out; omega)).mono ?_
               rintro e w1 ⟨rfl, HD1, HF1⟩
               obtain ⟨A2, c2, cd2, hc2⟩ := HD1.cLen k hlt st CS1.out;have f2 := HD1.free (k * 2 + 1);have c3 := HD1.cDur k hlt;have HDr : Veil (Am (w1.setCell ⟨g, k * 2 + 1, none⟩ (.int .i64 (st : Int))) S g { d with fs := DU d ks (k + 1) }) := ⟨by rw [← CS2.out]; exact HD1.setDur k hlt st⟩
               have hFr := (Fr.drewN (S := fun b => b = g) wr nq).trans (HF1.trans (Fr.setCell (S := fun b => b = g) (p := ⟨g, k * 2 + 1, none⟩) rfl (.int .i64 (st : Int))))
               have HKr := Veil.mk (HK.out.fr Hb.out hFr);have HFr := Veil.mk (HF.out.trans hFr);clear HD1 HF1 hFr))
            go_roundw
            case rel => exact ⟨k + 1, by omega, by go_num, HDr, HKr, HFr⟩
            case measure => simp [intOf]; omega
        · have hq0 : ks.getD k 0 = 0 := by rw [List.getD_eq_getElem?_getD, List.getElem?_eq_none (by omega)]; rfl
          rw [hq0] at hsd;have hkl2 : ¬ (k : Int) < ks.length := by omega
          clear hq0;all_goals
            have Hsd := Veil.mk hsd; clear hsd;go_wp2
            go_quiet (fail)
            have HDq := Veil.mk (HD.out.drewN nq);go_wp2_with (
              (go_at_call 56
               refine (NB HDq.out k hlt st _ Hst.out (by have := Hsd.out; omega)).mono ?_
               rintro e w1 ⟨rfl, HD1, HF1⟩
               obtain ⟨A2, c2, cd2, hc2⟩ := HD1.cLen k hlt st CS1.out;have f2 := HD1.free (k * 2 + 1);have c3 := HD1.cDur k hlt;have HDr : Veil (Am (w1.setCell ⟨g, k * 2 + 1, none⟩ (.int .i64 (st : Int))) S g { d with fs := DU d ks (k + 1) }) := ⟨by rw [← CS2.out]; exact HD1.setDur k hlt st⟩
               have hFr := (Fr.drewN (S := fun b => b = g) wr nq).trans (HF1.trans (Fr.setCell (S := fun b => b = g) (p := ⟨g, k * 2 + 1, none⟩) rfl (.int .i64 (st : Int))))
               have HKr := Veil.mk (HK.out.fr Hb.out hFr);have HFr := Veil.mk (HF.out.trans hFr);clear HD1 HF1 hFr))
            go_roundw
            case rel => exact ⟨k + 1, by omega, by go_num, HDr, HKr, HFr⟩
            case measure => simp [intOf]; omega
      · have hk8 : 8 ≤ k := by omega
        have H0 : Veil (Am wr S g { d with fs := (crash d ks).fs }) := ⟨HD.out.congr (fun i hi => by rw [Hc.out]; exact if_pos (show i < k from by omega)) rfl rfl rfl rfl⟩
        have c16 := H0.out.cDown;have f16 := H0.out.free 16;have H1 := Veil.mk (H0.out.setDown true);have c18 := H1.out.cArmed;have f18 := H1.out.free 18;have H2 : Veil (Am ((wr.setCell ⟨g, 16, none⟩ (.bool true)).setCell ⟨g, 18, none⟩ (.int .i64 0)) S g { d with fs := (crash d ks).fs, down := true, armed := 0 }) := ⟨H1.out.setArmed 0⟩
        obtain ⟨kv, c19, _, _⟩ := H2.out.cKeep;have f19 := H2.out.free 19;have H3 : Veil (Am (((wr.setCell ⟨g, 16, none⟩ (.bool true)).setCell ⟨g, 18, none⟩ (.int .i64 0)).setCell ⟨g, 19, none⟩ (.slice none 0 0)) S g (crash d ks)) := ⟨H2.out.setKeepNil.congr (fun _ _ => rfl) (by rw [Hc.out]) (by rw [Hc.out]) (by rw [Hc.out]) (by rw [Hc.out])⟩
        have HF3 : Veil (Fr (fun b => b = g) w (((wr.setCell ⟨g, 16, none⟩ (.bool true)).setCell ⟨g, 18, none⟩ (.int .i64 0)).setCell ⟨g, 19, none⟩ (.slice none 0 0))) :=
          ⟨HF.out.trans ((Fr.setCell (S := fun b => b = g) (p := ⟨g, 16, none⟩) rfl _).trans ((Fr.setCell (S := fun b => b = g) (p := ⟨g, 18, none⟩) rfl _).trans (Fr.setCell (S := fun b => b = g) (p := ⟨g, 19, none⟩) rfl _)))⟩
        clear hlt;go_wp2
        go_end0
        exact ⟨rfl, H3.out, HF3.out⟩
  · have hc : crash d ks = d := by unfold crash; rw [if_pos hd]
    rw [hd] at c16;have H0 : Veil (Am w S g (crash d ks)) := ⟨by rw [hc]; exact h⟩
    clear h hc hk hb ho hd;go_enter Tryz.func16, Tryz.ntmps16
    go_wp2
    refine bodyPost_ret (results_none rfl _ _ _) rfl ?_
    exact ⟨rfl, H0.out, Fr.refl _ _⟩
end
end
end
section
section
open Go.RowKit Dm
section
variable {S : Nat → Prop} {w : World} {g : Nat} {d : Dk}
theorem LW {d : Dk} {e : Int} (h : (strikes d).1 = true) : struck d e = (8, crash (strikes d).2 (strikes d).2.keep) := by unfold struck; rw [h]; rfl
theorem LV {d : Dk} {e : Int} (h : (strikes d).1 = false) : struck d e = (e, (strikes d).2) := by unfold struck; rw [h]; rfl
theorem Zfg {l : List Int} {k : Nat} (hk : k < l.length) (h : (l.take k).all kn = true) (hx : kn (l.getD k 0) = true) : (l.take (k + 1)).all kn = true := by
  rw [List.take_succ_eq_append_getElem hk, List.all_append, h];rw [List.getD_eq_getElem?_getD, List.getElem?_eq_getElem hk] at hx
  simpa using hx
theorem Zfh {l : List Int} {k : Nat} (hk : k < l.length) (hx : kn (l.getD k 0) = false) : l.all kn = false := by
  rw [List.getD_eq_getElem?_getD, List.getElem?_eq_getElem hk] at hx
  rw [List.all_eq_false];exact ⟨l[k], List.getElem_mem hk, by simpa using hx⟩
set_option maxRecDepth 100000 in
set_option maxHeartbeats 1000000 in
theorem Wa (h : Am w S g d) (ho : Ok d) (fv : Value) (l : List Int) (hk : Kp w fv l) (hb : ∀ b, bl fv = some b → b ≠ g) (hl : l.length ≤ 1000) :
    Calls Tryz.prog 132 #[.pointer (some ⟨g, 0, none⟩), fv] w fun e w' => e = .returned (.int .i64 (beginD d l).1) ∧ Am w' S g (beginD d l).2 ∧ Fr (fun b => b = g) w w' := by
  have c16 := h.cDown;rcases hd : d.down
  · have hB : beginD d l = struck d (if l.all kn then 0 else 1) := by unfold beginD; rw [hd]; rfl
    have HB := Veil.mk hB; clear hB;rw [hd] at c16;have HD := Veil.mk h; have HO := Veil.mk ho; have HK := Veil.mk hk; have Hb := Veil.mk hb;clear h ho hb hd;rcases hs : (strikes d).1
    · have HB2 : Veil (beginD d l = (if l.all kn then 0 else 1, (strikes d).2)) := ⟨by rw [HB.out, LV hs]⟩
      obtain ⟨A, c, rfl, hkc, hkr⟩ := hk;clear hkr;go_enter Tryz.func132, Tryz.ntmps132
      go_wp2_with ((go_at_call 168
                    refine (JT HD.out HO.out).mono ?_
                    rintro e w1 ⟨rfl, HD1, HF1⟩
                    have HK1 := Veil.mk (HK.out.fr (fun _ => Hb.out) HF1)
                    have HD1 := Veil.mk HD1;have HF1 := Veil.mk HF1))
      clear HD HK;go_loop [6, 21] (fun _ i => ∃ k : Nat, k ≤ l.length ∧ i = .int .i64 k ∧ Veil ((l.take k).all kn = true)) (fun _ i => l.length - (intOf i).toNat)
      case atStart => exact ⟨0, by omega, rfl, ⟨rfl⟩⟩
      case round =>
        obtain ⟨k, hk, rfl, Hall⟩ := hrel;by_cases hlt : k < l.length
        · obtain ⟨b, o, rfl, ck⟩ := HK1.out.at' k hlt
          have hki : (k : Int) < l.length := by omega
          have Ht := Veil.mk (fun hx => Zfg hlt Hall.out hx)
          have Hn := Veil.mk (fun hx => Zfh (l := l) (k := k) hlt hx)
          generalize l.getD k 0 = q at ck Ht Hn;rcases hq : kn q
          · go_wp2_with (go_at_call 129; refine (Gd _ _).mono ?_; rintro e w2 ⟨rfl, rfl⟩)
            go_ret
            refine ⟨?_, ?_, HF1.out⟩
            · rw [HB2.out, Hn.out hq]; rfl
            · rw [HB2.out]; exact HD1.out
          · go_wp2_with (go_at_call 129; refine (Gd _ _).mono ?_; rintro e w2 ⟨rfl, rfl⟩)
            go_round
            case rel => exact ⟨k + 1, by omega, by go_num, ⟨Ht.out hq⟩⟩
            case measure => simp [intOf]; omega
        · have hall : l.all kn = true := by
            have := Hall.out;rwa [List.take_of_length_le (by omega)] at this
          have HA := Veil.mk hall; clear hall;go_wp2
          go_ret
          refine ⟨?_, ?_, HF1.out⟩
          · rw [HB2.out, HA.out]; rfl
          · rw [HB2.out]; exact HD1.out
    · have HB2 : Veil (beginD d l = (8, crash (strikes d).2 (strikes d).2.keep)) := ⟨by rw [HB.out, LW hs]⟩
      clear hk;go_enter Tryz.func132, Tryz.ntmps132
      go_wp2_with (first
        | (go_at_call 168
           refine (JT HD.out HO.out).mono ?_
           rintro e w1 ⟨rfl, HD1, HF1⟩
           obtain ⟨kv, ckv, hkp, hkb⟩ := HD1.cKeep;have HKp := Veil.mk hkp;have HKb := Veil.mk hkb;have HD1 := Veil.mk HD1;have HF1 := Veil.mk HF1;clear hkp hkb)
        | (go_at_call 16
           refine (KL HD1.out (IX HO.out) _ _ HKp.out (fun _ => HKb.out)).mono ?_
           rintro e w2 ⟨rfl, HD2, HF2⟩
           have HD2 := Veil.mk HD2;have HF2 := Veil.mk (HF1.out.trans HF2)))
      go_ret
      refine ⟨?_, ?_, HF2.out⟩
      · rw [HB2.out]; rfl
      · rw [HB2.out]; exact HD2.out
  · have hB : beginD d l = (8, d) := by unfold beginD; rw [hd]; rfl
    have HB := Veil.mk hB; clear hB;rw [hd] at c16;have HD := Veil.mk h;clear h hk hb ho hd;go_enter Tryz.func132, Tryz.ntmps132
    go_wp2
    go_ret
    refine ⟨?_, ?_, Fr.refl _ _⟩
    · rw [HB.out]; rfl
    · rw [HB.out]; exact HD.out
end
end
end
section
section
open Go.RowKit Dm
theorem YN {P : Program} {ops : Array Oper} {o : Oper} {a : Act} {K : Act → World → Prop} {Q : Exit → Act → World → Prop} {E : Prop} (w : World) (hgd : o.guard = none) (s x : Operand) (t u : TypeId)
    (ho : o.op = .call { callee := .builtin .append, args := #[s, x], argTypes := #[t, u] }) (ht : P.underlying t = some (.slice 5)) (hu : P.underlying u = some .string)
    (hE : DY P t 5 1 1) (hz : ∀ i, P.info? 5 = some i → i.zero = some (.int .u8 0)) {v : Value} {l : List UInt8} (hf : BC w v l) (hs : a.eval s = v) (str : ByteArray) (hx : a.eval x = .string str) (hb : l.length + str.size ≤ 140737488355328)
    (h : ∀ v' w', BC w' v' (l ++ str.data.toList) → w.grownBy w' (bl v) → (bl v' = bl v ∨ bl v' = some w.heap.size) → K (a.put o.dst v') w') : if Region.wanted o (yielded ops a.tmps) = true then Oper.wp P o a w K Q else E := by
  have hw : Region.wanted o (yielded ops a.tmps) = true := by simp [Region.wanted, hgd]
  rw [if_pos hw];obtain ⟨v', w', hrun, h2, h3, h4⟩ := hf.append t u o.type ht hu hE hz str hb;unfold Oper.wp execOp;simp only [ho, resolve, invoke, builtin, Sem.run_bind, Sem.run_pure, Result.andThen_ok, List.map_toArray, List.map_cons, List.map_nil, hs, hx, hrun];exact h v' w' h2 h3 h4
theorem XV : ∀ i, Tryz.prog.info? 5 = some i → i.zero = some (.int .u8 0) := fun i h => by
  have : (Tryz.prog.info? 5).map (·.zero) = some (some (.int .u8 0)) := by kernel_rfl
  rw [h] at this;simpa using this
section
variable {S : Nat → Prop} {w : World} {g : Nat} {d : Dk}
set_option maxRecDepth 100000 in
set_option maxHeartbeats 2000000 in
theorem Zfd (h : Am w S g d) (ho : Ok d) (hS : ∀ b, w.heap.size ≤ b → S b) (f : Int) (s : ByteArray) (hs : s.size ≤ 9223372036854775807) :
    Calls Tryz.prog 99 #[.pointer (some ⟨g, 0, none⟩), .int .i64 f, .string s] w fun e w' => e = .returned (.int .i64 (appendD d f s.data.toList).1) ∧ Am w' S g (appendD d f s.data.toList).2 ∧ Fr S w w' := by
  have c16 := h.cDown;have hsl : s.data.toList.length = s.size := by simp
  have hgS := Veil.mk (show ∀ b, b = g → S b from fun b hb => by rw [hb]; exact h.at')
  rcases hd : d.down
  · rw [hd] at c16
    rcases hk : kn f
    · have hA : appendD d f s.data.toList = struck d 1 := by unfold appendD; rw [hd, hk]; rfl
      have HA := Veil.mk hA; clear hA;have HD := Veil.mk h; have HO := Veil.mk ho;clear h ho hd hS hsl;rcases hst : (strikes d).1
      all_goals
        have HA2 := Veil.mk (HA.out.trans (by first | exact LV hst | exact LW hst))
        go_enter Tryz.func99, Tryz.ntmps99
        go_wp2_with (first
          | (go_at_call 129; refine (Gd _ _).mono ?_; rintro e w2 ⟨rfl, rfl⟩)
          | (go_at_call 168
             refine (JT HD.out HO.out).mono ?_
             rintro e w1 ⟨rfl, HD1, HF1⟩
             obtain ⟨kv, ckv, hkp, hkb⟩ := HD1.cKeep;have HKp := Veil.mk hkp;have HKb := Veil.mk hkb;have HD1 := Veil.mk HD1;have HF1 := Veil.mk HF1;clear hkp hkb)
          | (go_at_call 16
             refine (KL HD1.out (IX HO.out) _ _ HKp.out (fun _ => HKb.out)).mono ?_
             rintro e w2 ⟨rfl, HD2, HF2⟩
             have HD1 := Veil.mk HD2;have HF1 := Veil.mk (HF1.out.trans HF2)))
        go_ret
        refine ⟨?_, ?_, HF1.out.more hgS.out⟩
        · rw [HA2.out]; rfl
        · rw [HA2.out]; exact HD1.out
    · obtain ⟨n, rfl, hn⟩ := Kv hk
      have hlen := (ho.fs n).len;by_cases hfull : 16777216 < (d.fs n).data.length + s.size
      · have hA : appendD d (n : Int) s.data.toList = struck d 7 := by unfold appendD; rw [hd, hk, hsl, if_neg (by simp), if_neg (by simp)]; exact if_pos hfull
        have HA := Veil.mk hA; clear hA;obtain ⟨A, c, cn, hc, _⟩ := h.cData n hn;have hfi : (16777216 : Int) - ((d.fs n).data.length : Int) < (s.size : Int) := by omega
        have HD := Veil.mk h; have HO := Veil.mk ho;clear h ho hd hS hsl hfull;generalize (d.fs n).data.length = ln at *;rcases hst : (strikes d).1
        all_goals
          have HA2 := Veil.mk (HA.out.trans (by first | exact LV hst | exact LW hst))
          go_enter Tryz.func99, Tryz.ntmps99
          go_wp2_with (first
            | (go_at_call 129; refine (Gd _ _).mono ?_; rintro e w2 ⟨rfl, rfl⟩)
            | (go_at_call 168
               refine (JT HD.out HO.out).mono ?_
               rintro e w1 ⟨rfl, HD1, HF1⟩
               obtain ⟨kv, ckv, hkp, hkb⟩ := HD1.cKeep;have HKp := Veil.mk hkp;have HKb := Veil.mk hkb;have HD1 := Veil.mk HD1;have HF1 := Veil.mk HF1;clear hkp hkb)
            | (go_at_call 16
               refine (KL HD1.out (IX HO.out) _ _ HKp.out (fun _ => HKb.out)).mono ?_
               rintro e w2 ⟨rfl, HD2, HF2⟩
               have HD1 := Veil.mk HD2;have HF1 := Veil.mk (HF1.out.trans HF2)))
          go_ret
          refine ⟨?_, ?_, HF1.out.more hgS.out⟩
          · rw [HA2.out]; rfl
          · rw [HA2.out]; exact HD1.out
      · have hA : appendD d (n : Int) s.data.toList = struck { d with fs := upd d.fs n ⟨(d.fs n).data ++ s.data.toList, (d.fs n).dur⟩ } 0 := by unfold appendD; rw [hd, hk, hsl, if_neg (by simp), if_neg (by simp)]; exact if_neg hfull
        have HA := Veil.mk hA; clear hA;have hoD : Ok { d with fs := upd d.fs n ⟨(d.fs n).data ++ s.data.toList, (d.fs n).dur⟩ } := ⟨Lj ho.fs _ ⟨by have := (ho.fs n).dur; simp only [List.length_append]; omega, by simp only [List.length_append]; omega⟩, ho.lost, ho.armed⟩
        have HO := Veil.mk hoD; clear hoD;obtain ⟨vs, kv, hr, h3⟩ := h;obtain ⟨A, c, hv, hc⟩ := (h3.fil n hn).form;have cn := hr.cell (i := n * 2) (by omega)
        rw [KR _ _ _ _ hn, hv] at cn;have hfil := Veil.mk (h3.fil n hn);have hap := Veil.mk (fun {w' : World} {v : Value} {l : List UInt8} (hf : BC w' v l) (hg : w.drew.grownBy w' (bl (vs n))) (hb : bl v = bl (vs n) ∨ bl v = some w.drew.heap.size) =>
          Am.appended (w := w.drew) hr ⟨h3.head, h3.fil, h3.own, h3.apart, h3.kp, h3.kown, h3.kapart, h3.klt⟩ n hn hf hg hb (hS _ (Nat.le_refl _)))
        have hfi : ¬ (16777216 : Int) - ((d.fs n).data.length : Int) < (s.size : Int) := by omega
        have hsz : (d.fs n).data.length + s.size ≤ 140737488355328 := by omega
        have Hsz := Veil.mk hsz;have hn8 : (n : Int) < 8 := by omega
        have Hlen : Veil (((d.fs n).data ++ s.data.toList).length = (d.fs n).data.length + s.size) := ⟨by rw [List.length_append, hsl]⟩
        rw [hv] at hfil hap;clear hr h3 ho hd hS hfull hsz hv;clear hsl;go_enter Tryz.func99, Tryz.ntmps99
        go_wp2_with (first
          | (go_at_call 129; refine (Gd _ _).mono ?_; rintro e w2 ⟨rfl, rfl⟩))
        go_region_law (refine YN w.drew rfl (.tmp 37) (.tmp 38) _ _ rfl Tryz.underlying86 Tryz.underlying9 FO XV hfil.out rfl s rfl Hsz.out ?_; intro v' w' hf' hg' hb'; obtain ⟨A', c', hv', hc'⟩ := hf'.form; rw [Hlen.out] at hv' hc'; subst hv'; obtain ⟨cc, ff, HD0, HF0⟩ := hap.out hf' hg' hb'; have HD0 := Veil.mk HD0; have HF0 := Veil.mk HF0; clear hf' hg' hb')
        all_goals
          rcases hst : (strikes { d with fs := upd d.fs n ⟨(d.fs n).data ++ s.data.toList, (d.fs n).dur⟩ }).1
          all_goals
            have HA2 := Veil.mk (HA.out.trans (by first | exact LV hst | exact LW hst))
            go_wp2_with (first
              | (go_at_call 168
                 refine (JT HD0.out HO.out).mono ?_
                 rintro e w1 ⟨rfl, HD1, HF1⟩
                 obtain ⟨kv, ckv, hkp, hkb⟩ := HD1.cKeep;have HKp := Veil.mk hkp;have HKb := Veil.mk hkb;have HD1 := Veil.mk HD1;have HF1 := Veil.mk (HF0.out.trans (HF1.more hgS.out));clear hkp hkb)
              | (go_at_call 16
                 refine (KL HD1.out (IX HO.out) _ _ HKp.out (fun _ => HKb.out)).mono ?_
                 rintro e w2 ⟨rfl, HD2, HF2⟩
                 have HD1 := Veil.mk HD2;have HF1 := Veil.mk (HF1.out.trans (HF2.more hgS.out))))
            go_ret
            refine ⟨?_, ?_, (Fr.drewN w 1).trans HF1.out⟩
            · rw [HA2.out]; rfl
            · rw [HA2.out]; exact HD1.out
  · have hA : appendD d f s.data.toList = (8, d) := by unfold appendD; rw [if_pos hd]
    have HA := Veil.mk hA; clear hA;rw [hd] at c16;have HD := Veil.mk h;clear h ho hd hS hsl;go_enter Tryz.func99, Tryz.ntmps99
    go_wp2
    go_ret
    refine ⟨?_, ?_, Fr.refl _ _⟩
    · rw [HA.out]; rfl
    · rw [HA.out]; exact HD.out
end
end
end
end Go.Proofs.YtldohjjoicmfpaaGreatDoor
