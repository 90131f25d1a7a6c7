/- The walk of agoralaw03.SumHexes: it answers true at every pair of strings. -/
import Derived.Test.YtcjagjganiigiaaDoorSumWg
import Derived.Test.YtcjagjganiigiaaDoorSumPa
namespace Go.Proofs.YtcjagjganiigiaaDoor
open Go.RowKit Sm
theorem mk_toList (s : ByteArray) : (⟨s.data.toList.toArray⟩ : ByteArray) = s := by cases s; simp
set_option maxRecDepth 100000 in
set_option maxHeartbeats 2000000 in
theorem hexes_big (s t : ByteArray) (w : World) (hT : Tabs w) (h : 4000 < s.size ∨ 4000 < t.size) :
    Calls Tryd.prog 4 #[.string s, .string t] w fun e w' => e = .returned (.bool true) ∧ Below w.heap.size w w' := by
  have HT := Veil.mk hT; clear hT
  by_cases h1 : 4000 < s.size
  · have h1i : (4000 : Int) < s.size := by omega
    go_enter Tryd.func4, Tryd.ntmps4
    go_wp2_with (go_at_call 9; refine (small_any _ HT.out).mono ?_; rintro e w1 ⟨rfl, b1⟩)
    go_ret
    exact ⟨rfl, b1⟩
  · have h2 : 4000 < t.size := by omega
    have h1i : ¬ (4000 : Int) < s.size := by omega
    have h2i : (4000 : Int) < t.size := by omega
    clear h
    go_enter Tryd.func4, Tryd.ntmps4
    go_wp2_with (go_at_call 9; refine (small_any _ HT.out).mono ?_; rintro e w1 ⟨rfl, b1⟩)
    go_ret
    exact ⟨rfl, b1⟩
set_option maxRecDepth 100000 in
set_option maxHeartbeats 2000000 in
theorem hexes_small (s t : ByteArray) (w : World) (hT : Tabs w) (h1 : s.size ≤ 4000) (h2 : t.size ≤ 4000) :
    Calls Tryd.prog 4 #[.string s, .string t] w fun e w' => e = .returned (.bool true) ∧ Below w.heap.size w w' := by
  have HT := Veil.mk hT; clear hT
  have hsl : s.data.toList.length = s.size := by simp
  have htl : t.data.toList.length = t.size := by simp
  obtain ⟨h, hh⟩ : ∃ h : ByteArray, h = ⟨(hex s.data.toList).toArray⟩ := ⟨_, rfl⟩
  have hhl : h.size = 2 * s.size := by rw [hh]; show (hex s.data.toList).toArray.size = _; rw [List.size_toArray, hex_length, hsl]
  have hhd : h.data.toList = hex s.data.toList := by rw [hh]
  have C1 : Veil (∀ W : World, Calls Tryd.prog 16 #[.string s] W fun e w' => e = .returned (.string h) ∧ Below W.heap.size W w') := ⟨fun W => by rw [hh]; exact hex_any s W (by omega)⟩
  have C2 : Veil (∀ W : World, Calls Tryd.prog 10 #[.string h] W fun e w' => e = .returned (.tuple #[.string s, .bool true]) ∧ Below W.heap.size W w') := ⟨fun W => by
    have := unhex_any h W (by omega)
    rw [hhd, unhex_hex, mk_toList] at this
    exact this⟩
  rcases hu : unhex t.data.toList with ⟨x, ok⟩
  have hxl := unhex_short _ _ _ hu
  have C3 : Veil (∀ W : World, Calls Tryd.prog 10 #[.string t] W fun e w' => e = .returned (.tuple #[.string ⟨x.toArray⟩, .bool ok]) ∧ Below W.heap.size W w') := ⟨fun W => by
    have := unhex_any t W (by omega)
    rw [hu] at this
    exact this⟩
  have C4 : Veil (ok = true → ∀ W : World, Calls Tryd.prog 16 #[.string ⟨x.toArray⟩] W fun e w' => e = .returned (.string t) ∧ Below W.heap.size W w') := ⟨fun hok W => by
    subst hok
    have := hex_any ⟨x.toArray⟩ W (by show x.toArray.size ≤ _; rw [List.size_toArray]; omega)
    rw [show (⟨x.toArray⟩ : ByteArray).data.toList = x from rfl, unhex_back _ _ hu, mk_toList] at this
    exact this⟩
  have C5 : Veil (ok = false → x = []) := ⟨fun hok => by subst hok; exact unhex_none _ _ hu⟩
  obtain ⟨x1, ho1⟩ : ∃ x1, unhex (hex s.data.toList ++ [48]) = (x1, false) := ⟨_, Prod.ext rfl (unhex_odd _)⟩
  obtain ⟨x2, ho2⟩ : ∃ x2, unhex (hex s.data.toList ++ [65, 48]) = (x2, false) := ⟨_, Prod.ext rfl (unhex_upper _)⟩
  have C6 : Veil (∀ W : World, Calls Tryd.prog 10 #[.string (h ++ ⟨#[48]⟩)] W fun e w' => e = .returned (.tuple #[.string ⟨x1.toArray⟩, .bool false]) ∧ Below W.heap.size W w') := ⟨fun W => by
    have := unhex_any (h ++ ⟨#[48]⟩) W (by rw [ByteArray.size_append]; show h.size + 1 ≤ _; omega)
    rw [show (h ++ ⟨#[48]⟩ : ByteArray).data.toList = hex s.data.toList ++ [48] from by rw [ByteArray.data_append, Array.toList_append, hhd], ho1] at this
    exact this⟩
  have C7 : Veil (∀ W : World, Calls Tryd.prog 10 #[.string (h ++ ⟨#[65, 48]⟩)] W fun e w' => e = .returned (.tuple #[.string ⟨x2.toArray⟩, .bool false]) ∧ Below W.heap.size W w') := ⟨fun W => by
    have := unhex_any (h ++ ⟨#[65, 48]⟩) W (by rw [ByteArray.size_append]; show h.size + 2 ≤ _; omega)
    rw [show (h ++ ⟨#[65, 48]⟩ : ByteArray).data.toList = hex s.data.toList ++ [65, 48] from by rw [ByteArray.data_append, Array.toList_append, hhd], ho2] at this
    exact this⟩
  have D : Veil (∀ i (hi : i < h.size), isDigit h[i] = true) := ⟨fun i hi => hex_isDigit s.data.toList _ (by
    rw [← hhd]
    exact List.mem_of_getElem? (i := i) (by rw [List.getElem?_eq_getElem (by simpa using hi)]; rfl))⟩
  have h1i : ¬ (4000 : Int) < s.size := by omega
  have h2i : ¬ (4000 : Int) < t.size := by omega
  have hle1 : h.size ≤ 8000 := by omega
  have hlen : ((h.size : Int) != 2 * (s.size : Int)) = false := by simp; omega
  clear hhd hhl hsl htl hu hxl ho1 ho2 hh
  go_enter Tryd.func4, Tryd.ntmps4
  go_wp2_with fail
  refine (small_any _ HT.out).mono ?_
  rintro e w1 ⟨rfl, b1⟩
  go_wp2_with fail
  refine (C1.out _).mono ?_
  rintro e w2 ⟨rfl, b2⟩
  go_wp2_with fail
  refine (C2.out _).mono ?_
  rintro e w3 ⟨rfl, b3⟩
  have B3 := (b1.trans (b2.mono b1.size)).trans (b3.mono (b1.trans (b2.mono b1.size)).size)
  clear b1 b2 b3
  go_wp2_with fail
  go_loop [9, 10] (fun i _ => ∃ k : Nat, k ≤ h.size ∧ i = .int .i64 k) (fun i _ => h.size - (intOf i).toNat)
  case atStart => exact ⟨0, by omega, rfl⟩
  case round =>
    obtain ⟨k, hk, rfl⟩ := hrel
    by_cases hlt : k < h.size
    · have hd := D.out k hlt
      have hki : (k : Int) < h.size := by omega
      rcases a1 : le8 48 h[k] <;> rcases a2 : le8 h[k] 57 <;> rcases a3 : le8 97 h[k] <;> rcases a4 : le8 h[k] 102
      all_goals first
        | (exfalso; simp [isDigit, a1, a2, a3, a4] at hd; done)
        | (clear hd
           go_wp2
           go_round
           case rel => exact ⟨k + 1, by omega, by go_num⟩
           case measure => simp [intOf]; omega)
    · go_wp2_with fail
      refine (C3.out _).mono ?_
      rintro e w4 ⟨rfl, b4⟩
      have B4 := B3.trans (b4.mono B3.size)
      clear b4 B3
      cases ok
      · have hx0 : x = [] := C5.out rfl
        subst hx0
        go_wp2_with fail
        refine (C6.out _).mono ?_
        rintro e w5 ⟨rfl, b5⟩
        have B5 := B4.trans (b5.mono B4.size)
        clear b5
        go_wp2_with fail
        refine (C7.out _).mono ?_
        rintro e w6 ⟨rfl, b6⟩
        have B6 := B5.trans (b6.mono B5.size)
        clear b6
        go_wp2
        go_ret
        exact ⟨rfl, B6⟩
      · have C4' := Veil.mk (C4.out rfl)
        clear C4 C5
        go_wp2_with fail
        refine (C4'.out _).mono ?_
        rintro e w5 ⟨rfl, b5⟩
        have B5 := B4.trans (b5.mono B4.size)
        clear b5
        go_wp2_with fail
        refine (C6.out _).mono ?_
        rintro e w6 ⟨rfl, b6⟩
        have B6 := B5.trans (b6.mono B5.size)
        clear b6
        go_wp2_with fail
        refine (C7.out _).mono ?_
        rintro e w7 ⟨rfl, b7⟩
        have B7 := B6.trans (b7.mono B6.size)
        clear b7
        go_wp2
        go_ret
        exact ⟨rfl, B7⟩
theorem hexes_any (s t : ByteArray) (w : World) (hT : Tabs w) :
    Calls Tryd.prog 4 #[.string s, .string t] w fun e w' => e = .returned (.bool true) ∧ Below w.heap.size w w' := by
  by_cases h : 4000 < s.size ∨ 4000 < t.size
  · exact hexes_big s t w hT h
  · exact hexes_small s t w hT (by omega) (by omega)
end Go.Proofs.YtcjagjganiigiaaDoor
