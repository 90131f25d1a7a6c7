/- The walks of sum.digit, Hex, Unhex, Num. -/
import Derived.Test.YtcjagjganiigiaaDoorSumWe
namespace Go.Proofs.YtcjagjganiigiaaDoor
open Go.RowKit Sm
theorem digit_any (c : UInt8) (w : World) :
    Calls Tryd.prog 21 #[w8 c] w fun e w' => e = .returned (.tuple #[w8 (dig c).1, .bool (dig c).2]) ∧ w = w' := by
  have e1 : ∀ (_ : le8 48 c = true) (_ : le8 c 57 = true), dig c = (c - 48, true) := by intro h1 h2; simp [dig, h1, h2]
  have e2 : ∀ (_ : (le8 48 c && le8 c 57) = false) (_ : le8 97 c = true) (_ : le8 c 102 = true), dig c = (c - 97 + 10, true) := by intro h1 h2 h3; simp only [dig, h1, h2, h3]; rfl
  have e3 : ∀ (_ : (le8 48 c && le8 c 57) = false) (_ : (le8 97 c && le8 c 102) = false), dig c = (0, false) := by intro h1 h2; simp only [dig, h1, h2]; rfl
  have E1 := Veil.mk e1
  have E2 := Veil.mk e2
  have E3 := Veil.mk e3
  clear e1 e2 e3
  rcases h1 : le8 48 c <;> rcases h2 : le8 c 57 <;> rcases h3 : le8 97 c <;> rcases h4 : le8 c 102
  all_goals
    go_enter Tryd.func21, Tryd.ntmps21
    go_wp2
    go_ret2
    refine ⟨?_, rfl⟩
    first
      | (rw [E1.out h1 h2]; rfl)
      | (rw [E2.out (by rw [h1, h2]; rfl) h3 h4]; rfl)
      | (rw [E3.out (by rw [h1, h2]; rfl) (by rw [h3, h4]; rfl)]; rfl)
theorem num_any (s : ByteArray) (w : World) (hs : s.size ≤ 9223372036854775807) :
    Calls Tryd.prog 18 #[.string s] w fun e w' => e = .returned (.int .i64 (num s.data.toList)) ∧ w = w' := by
  go_enter Tryd.func18, Tryd.ntmps18
  go_wp2
  go_loop [3, 4, 5] (fun r _ i => ∃ k : Nat, k ≤ 8 ∧ i = .int .i64 k ∧ r = w64 (BitVec.ofNat 64 (nat8 s.data.toList k))) (fun _ _ i => 8 - (intOf i).toNat)
  case atStart => exact ⟨0, by omega, rfl, rfl⟩
  case round =>
    obtain ⟨k, hk, rfl, rfl⟩ := hrel
    by_cases hlt : k < 8
    · have st := num_step s.data.toList k hlt
      have sk := num_skip s.data.toList k hlt
      have ek : ∀ (h : k < s.size), s.data.toList.getD k 0 = s[k] := by
        intro h
        rw [List.getD_eq_getElem?_getD, List.getElem?_eq_getElem (by simpa using h)]; rfl
      generalize hn : BitVec.ofNat 64 (nat8 s.data.toList k) = n at st sk
      have Hn := Veil.mk hn
      have St := Veil.mk st
      have Sk := Veil.mk sk
      have Ek := Veil.mk ek
      clear hn st sk ek
      by_cases hl : k < s.size
      · go_wp2
        go_round
        case rel => exact ⟨k + 1, by omega, by go_num, by rw [← St.out, Ek.out hl]⟩
        case measure => simp [intOf]; omega
      · go_wp2
        go_round
        case rel => exact ⟨k + 1, by omega, by go_num, by rw [← Sk.out (by simp; omega)]⟩
        case measure => simp [intOf]; omega
    · obtain rfl : k = 8 := by omega
      have e := num_end s.data.toList
      generalize hn : BitVec.ofNat 64 (nat8 s.data.toList 8) = n at e ⊢
      clear hn
      have E := Veil.mk e; clear e
      go_wp2
      go_ret
      exact ⟨ret_int E.out, rfl⟩
/-- a digit of the text's table at a byte below 16 -/
@[go_sem] theorem index_w8 {P : Program} (w : World) (t : TypeId) (s : ByteArray) (b : UInt8) (h : P.underlying t = some .string) :
    (Instr.index t (.string s) (w8 b)).run P w = if hi : b.toNat < s.size then .ok (w8 (s[b.toNat]'hi)) w else (boundsPanic .u8 b.toNat s.size .index).run P w := by
  show (Instr.index t (.string s) (.int .u8 _)).run P w = _
  rw [run_index_string w t s .u8 _ h]
  by_cases hi : b.toNat < s.size
  · rw [dif_pos hi, dif_pos ⟨by omega, by omega⟩]; rfl
  · rw [dif_neg hi, dif_neg (by omega)]
theorem hexd_at (b : UInt8) (h : b.toNat < (⟨#[48, 49, 50, 51, 52, 53, 54, 55, 56, 57, 97, 98, 99, 100, 101, 102]⟩ : ByteArray).size) : (⟨#[48, 49, 50, 51, 52, 53, 54, 55, 56, 57, 97, 98, 99, 100, 101, 102]⟩ : ByteArray)[b.toNat] = hexd b := by
  unfold hexd digs
  rw [List.getD_eq_getElem?_getD, List.getElem?_eq_getElem (by exact h)]
  rfl
theorem hexd_run (w : World) (b : UInt8) (h : b.toNat < 16) : (Instr.index 9 (.string ⟨#[48, 49, 50, 51, 52, 53, 54, 55, 56, 57, 97, 98, 99, 100, 101, 102]⟩) (w8 b)).run Tryd.prog w = .ok (w8 (hexd b)) w := by
  rw [index_w8 w _ _ _ Tryd.underlying9, dif_pos (by exact h), hexd_at b h]
set_option maxHeartbeats 1000000 in
theorem hex_any (s : ByteArray) (w : World) (hs : s.size ≤ 70368744177664) :
    Calls Tryd.prog 16 #[.string s] w fun e w' => e = .returned (.string ⟨(hex s.data.toList).toArray⟩) ∧ Below w.heap.size w w' := by
  go_enter Tryd.func16, Tryd.ntmps16
  go_wp2_with (refine mk_arm w rfl _ _ _ rfl elem8 rfl (2 * (s.size : Int)) rfl ?_ ?_ ?_ (Nat.le_refl _) ?_; rotate_left 3; intro v0 w0 own0 gr0)
  rotate_left 1
  · omega
  · omega
  · omega
  have hb0 : Below w.heap.size w w0 := (Below.refl _ _).grown gr0 (Nat.le_refl _) (fun k hk => by cases hk)
  clear gr0
  go_loopw [3, 4, 11] (fun v _ i wr => ∃ k : Nat, k ≤ s.size ∧ i = .int .i64 k ∧ Own wr w.heap.size 5 1 v ((hex (s.data.toList.take k)).map w8) ∧ Below w.heap.size w wr) (fun _ _ i _ => s.size - (intOf i).toNat)
  case atStart => exact ⟨0, by omega, rfl, own0, hb0⟩
  case round =>
    obtain ⟨k, hk, rfl, hown, hb⟩ := hrel
    have hle := hb.size
    by_cases hlt : k < s.size
    · have hts := take_snoc s k hlt
      have hlen : (hex (s.data.toList.take k)).length ≤ 2 * k := by rw [hex_length]; have := List.length_take_le k s.data.toList; omega
      have Hts := Veil.mk hts; clear hts
      have Hlen := Veil.mk hlen; clear hlen
      have d1 := fun W => hexd_run W (shrB s[k] 4) (shr4_lt _)
      have d2 := fun W => hexd_run W (s[k] &&& 15) (and15_lt _)
      have hki : (k : Int) < s.size := by omega
      go_wp2
      have ho := oneCell_map8 (hex2 s[k])
      have hl1 : (((hex (s.data.toList.take k)).map w8).length + ((hex2 s[k]).map w8).length) * 1 ≤ 140737488355328 := by
        rw [List.length_map, List.length_map]; have := Hlen.out; simp only [hex2, List.length_cons, List.length_nil]; omega
      have hl2 : ((hex (s.data.toList.take k)).map w8).length + ((hex2 s[k]).map w8).length ≤ 140737488355328 := by omega
      have HO := Veil.mk ho
      have HL1 := Veil.mk hl1
      have HL2 := Veil.mk hl2
      clear ho hl1 hl2
      go_region_law (refine step_ap_lit wr.drew rfl (.tmp 14) (.tmp 25) _ rfl elem8 [w8 (hexd (shrB s[k] 4)), w8 (hexd (s[k] &&& 15))] hown.drew rfl rfl HO.out HL1.out HL2.out hle ?_; intro v' w' own' gr')
      all_goals
        have own2 : Own w' w.heap.size 5 1 v' ((hex (s.data.toList.take (k + 1))).map w8) := by
          rw [Hts.out, hex_snoc, List.map_append]; exact own'
        have hb' := belowOwn hb.drew gr' hown.drew (Nat.le_refl _) hle
        clear own' gr'
        go_wp2
        go_roundw
        case rel => exact ⟨k + 1, by omega, by go_num, own2, hb'⟩
        case measure => simp [intOf]; omega
    · have e := take_all s k hlt
      rw [e] at hown
      have hc := str_run (P := Tryd.prog) wr 34 9 5 Tryd.underlying34 Tryd.underlying5 Tryd.underlying9 hown.rd
      clear e
      generalize hhx : hex s.data.toList = hx at hc
      have Hhx := Veil.mk hhx; clear hhx
      go_wp2
      go_ret
      exact ⟨by rw [Hhx.out]; rfl, hb⟩
set_option maxHeartbeats 1000000 in
theorem unhex_any (s : ByteArray) (w : World) (hs : s.size ≤ 70368744177664) :
    Calls Tryd.prog 10 #[.string s] w fun e w' => e = .returned (.tuple #[.string ⟨(unhex s.data.toList).1.toArray⟩, .bool (unhex s.data.toList).2]) ∧ Below w.heap.size w w' := by
  have hsl : s.data.toList.length = s.size := by simp
  have Hsl := Veil.mk hsl; clear hsl
  by_cases hev : s.size % 2 = 0
  · have hmod : ((s.size : Int) % 2 != 0) = false := by simp; omega
    have Hev := Veil.mk hev; clear hev
    go_enter Tryd.func10, Tryd.ntmps10
    go_wp2_with (refine mk_arm w rfl _ _ _ rfl elem8 rfl ((s.size : Int) / 2) rfl ?_ ?_ ?_ (Nat.le_refl _) ?_; rotate_left 3; intro v0 w0 own0 gr0)
    rotate_left 1
    · omega
    · omega
    · omega
    have hb0 : Below w.heap.size w w0 := (Below.refl _ _).grown gr0 (Nat.le_refl _) (fun k hk => by cases hk)
    clear gr0
    go_loopw [4, 5, 6, 7, 8, 9] (fun v i _ _ _ _ wr => ∃ (k : Nat) (out : List UInt8), 2 * k ≤ s.size ∧ i = .int .i64 (2 * (k : Int)) ∧ Veil (unhexAt s.data.toList k = some out) ∧ Own wr w.heap.size 5 1 v (out.map w8) ∧ Below w.heap.size w wr) (fun _ i _ _ _ _ _ => s.size - (intOf i).toNat)
    case atStart => exact ⟨0, [], by omega, rfl, ⟨rfl⟩, own0, hb0⟩
    case round =>
      obtain ⟨k, out, hk, rfl, Hout, hown, hb⟩ := hrel
      have hle := hb.size
      have Hol := Veil.mk (unhexAt_length _ _ _ Hout.out)
      by_cases hlt : 2 * k < s.size
      · have hk1 : 2 * k + 1 < s.size := by have := Hev.out; omega
        have e1 : s.data.toList.getD (2 * k) 0 = s[2 * k] := by
          rw [List.getD_eq_getElem?_getD, List.getElem?_eq_getElem (by simpa using hlt)]; rfl
        have e2 : s.data.toList.getD (2 * k + 1) 0 = s[2 * k + 1] := by
          rw [List.getD_eq_getElem?_getD, List.getElem?_eq_getElem (by simpa using hk1)]; rfl
        have E1 := Veil.mk e1
        have E2 := Veil.mk e2
        clear e1 e2
        have hi1 : ((2 : Int) * (k : Int) + 1) < s.size := by omega
        have hi0 : ((2 : Int) * (k : Int)) < s.size := by omega
        cases h1 : (dig s[2 * k]).2 <;> cases h2 : (dig s[2 * k + 1]).2
        case true.true =>
          go_wp2_with (first
            | (go_at_call 21; refine (digit_any _ _).mono ?_; rintro e w' ⟨rfl, rfl⟩)
            | (at_builtin; refine ap_lit wr rfl _ _ _ rfl elem8 [_] hown rfl rfl ?_ ?_ ?_ hle ?_; rotate_left 3; intro v' w' own' gr'))
          rotate_left 1
          · exact one1 rfl
          · rw [List.length_map, Hol.out]; simp only [List.length_singleton]; omega
          · rw [List.length_map, Hol.out]; simp only [List.length_singleton]; omega
          have own2 : Own w' w.heap.size 5 1 v' ((out ++ [shlB (dig s[2 * k]).1 4 ||| (dig s[2 * k + 1]).1]).map w8) := by
            rw [List.map_append]; exact own'
          have hb' := belowOwn hb gr' hown (Nat.le_refl _) hle
          clear own' gr'
          go_roundw
          case rel => exact ⟨k + 1, _, by omega, by go_num, ⟨by rw [unhexAt, Hout.out, E1.out, E2.out, h1, h2]; rfl⟩, own2, hb'⟩
          case measure => simp [intOf]; omega
        all_goals
          have hf := unhex_fail s.data.toList k out Hout.out (by have := Hsl.out; omega) (by rw [E1.out, E2.out, h1, h2]; rfl)
          have Hf := Veil.mk hf; clear hf
          go_wp2_with (go_at_call 21; refine (digit_any _ _).mono ?_; rintro e w' ⟨rfl, rfl⟩)
          go_ret2
          exact ⟨by rw [Hf.out]; rfl, hb⟩
      · have hu : unhex s.data.toList = (out, true) := by
          have hk2 : s.data.toList.length / 2 = k := by have := Hsl.out; have := Hev.out; omega
          have hk0 : s.data.toList.length % 2 = 0 := by rw [Hsl.out]; exact Hev.out
          rw [unhex, if_pos hk0, hk2, Hout.out]
        have Hu := Veil.mk hu; clear hu
        have hc := str_run (P := Tryd.prog) wr 34 9 5 Tryd.underlying34 Tryd.underlying5 Tryd.underlying9 hown.rd
        go_wp2
        go_ret2
        exact ⟨by rw [Hu.out]; rfl, hb⟩
  · have hmod : ((s.size : Int) % 2 != 0) = true := by simp; omega
    have hu : unhex s.data.toList = ([], false) := by rw [unhex, if_neg (by rw [Hsl.out]; exact hev)]
    have Hu := Veil.mk hu; clear hu hev
    go_enter Tryd.func10, Tryd.ntmps10
    go_wp2
    go_ret2
    exact ⟨by rw [Hu.out]; rfl, Below.refl _ _⟩
end Go.Proofs.YtcjagjganiigiaaDoor
