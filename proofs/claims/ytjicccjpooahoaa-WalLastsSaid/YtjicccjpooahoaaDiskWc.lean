/- The walks of begin and Append. -/
import Derived.Test.YtjicccjpooahoaaDiskWb
namespace Go.Proofs.Ytjicccjpooahoaa
set_option linter.unusedSectionVars false
set_option linter.unusedVariables false
set_option linter.unusedSimpArgs false
open Go.RowKit Dm
section
variable {S : Nat → Prop} {w : World} {g : Nat} {d : Dk}
theorem struck_hit {d : Dk} {e : Int} (h : (strikes d).1 = true) : struck d e = (8, crash (strikes d).2 (strikes d).2.keep) := by unfold struck; rw [h]; rfl
theorem struck_miss {d : Dk} {e : Int} (h : (strikes d).1 = false) : struck d e = (e, (strikes d).2) := by unfold struck; rw [h]; rfl
theorem all_take {l : List Int} {k : Nat} (hk : k < l.length) (h : (l.take k).all kn = true) (hx : kn (l.getD k 0) = true) : (l.take (k + 1)).all kn = true := by
  rw [List.take_succ_eq_append_getElem hk, List.all_append, h]
  rw [List.getD_eq_getElem?_getD, List.getElem?_eq_getElem hk] at hx
  simpa using hx
theorem all_not {l : List Int} {k : Nat} (hk : k < l.length) (hx : kn (l.getD k 0) = false) : l.all kn = false := by
  rw [List.getD_eq_getElem?_getD, List.getElem?_eq_getElem hk] at hx
  rw [List.all_eq_false]
  exact ⟨l[k], List.getElem_mem hk, by simpa using hx⟩
set_option maxRecDepth 100000 in
set_option maxHeartbeats 1000000 in
theorem begin_any (h : DRep w S g d) (ho : Ok d) (fv : Value) (l : List Int) (hk : Kp w fv l) (hb : ∀ b, bl fv = some b → b ≠ g) (hl : l.length ≤ 1000) :
    Calls Try.prog 49 #[.pointer (some ⟨g, 0, none⟩), fv] w fun e w' => e = .returned (.int .i64 (beginD d l).1) ∧ DRep w' S g (beginD d l).2 ∧ Fr (fun b => b = g) w w' := by
  have c16 := h.cDown
  rcases hd : d.down
  · have hB : beginD d l = struck d (if l.all kn then 0 else 1) := by unfold beginD; rw [hd]; rfl
    have HB := Veil.mk hB; clear hB
    rw [hd] at c16
    have HD := Veil.mk h; have HO := Veil.mk ho; have HK := Veil.mk hk; have Hb := Veil.mk hb
    clear h ho hb hd
    rcases hs : (strikes d).1
    · have HB2 : Veil (beginD d l = (if l.all kn then 0 else 1, (strikes d).2)) := ⟨by rw [HB.out, struck_miss hs]⟩
      obtain ⟨A, c, rfl, hkc, hkr⟩ := hk
      clear hkr
      go_enter Try.func49, Try.ntmps49
      go_wp2_with ((go_at_call 30
                    refine (strikes_any HD.out HO.out).mono ?_
                    rintro e w1 ⟨rfl, HD1, HF1⟩
                    have HK1 := Veil.mk (HK.out.fr (fun _ => Hb.out) HF1)
                    have HD1 := Veil.mk HD1
                    have HF1 := Veil.mk HF1))
      clear HD HK
      go_loop [6, 21] (fun _ i => ∃ k : Nat, k ≤ l.length ∧ i = .int .i64 k ∧ Veil ((l.take k).all kn = true)) (fun _ i => l.length - (intOf i).toNat)
      case atStart => exact ⟨0, by omega, rfl, ⟨rfl⟩⟩
      case round =>
        obtain ⟨k, hk, rfl, Hall⟩ := hrel
        by_cases hlt : k < l.length
        · obtain ⟨b, o, rfl, ck⟩ := HK1.out.at' k hlt
          have hki : (k : Int) < l.length := by omega
          have Ht := Veil.mk (fun hx => all_take hlt Hall.out hx)
          have Hn := Veil.mk (fun hx => all_not (l := l) (k := k) hlt hx)
          generalize l.getD k 0 = q at ck Ht Hn
          rcases hq : kn q
          · go_wp2_with (go_at_call 29; refine (known_any _ _).mono ?_; rintro e w2 ⟨rfl, rfl⟩)
            go_ret
            refine ⟨?_, ?_, HF1.out⟩
            · rw [HB2.out, Hn.out hq]; rfl
            · rw [HB2.out]; exact HD1.out
          · go_wp2_with (go_at_call 29; refine (known_any _ _).mono ?_; rintro e w2 ⟨rfl, rfl⟩)
            go_round
            case rel => exact ⟨k + 1, by omega, by go_num, ⟨Ht.out hq⟩⟩
            case measure => simp [intOf]; omega
        · have hall : l.all kn = true := by
            have := Hall.out
            rwa [List.take_of_length_le (by omega)] at this
          have HA := Veil.mk hall; clear hall
          go_wp2
          go_ret
          refine ⟨?_, ?_, HF1.out⟩
          · rw [HB2.out, HA.out]; rfl
          · rw [HB2.out]; exact HD1.out
    · have HB2 : Veil (beginD d l = (8, crash (strikes d).2 (strikes d).2.keep)) := ⟨by rw [HB.out, struck_hit hs]⟩
      clear hk
      go_enter Try.func49, Try.ntmps49
      go_wp2_with (first
        | (go_at_call 30
           refine (strikes_any HD.out HO.out).mono ?_
           rintro e w1 ⟨rfl, HD1, HF1⟩
           obtain ⟨kv, ckv, hkp, hkb⟩ := HD1.cKeep
           have HKp := Veil.mk hkp
           have HKb := Veil.mk hkb
           have HD1 := Veil.mk HD1
           have HF1 := Veil.mk HF1
           clear hkp hkb)
        | (go_at_call 23
           refine (crash_any HD1.out (strikes_ok HO.out) _ _ HKp.out (fun _ => HKb.out)).mono ?_
           rintro e w2 ⟨rfl, HD2, HF2⟩
           have HD2 := Veil.mk HD2
           have HF2 := Veil.mk (HF1.out.trans HF2)))
      go_ret
      refine ⟨?_, ?_, HF2.out⟩
      · rw [HB2.out]; rfl
      · rw [HB2.out]; exact HD2.out
  · have hB : beginD d l = (8, d) := by unfold beginD; rw [hd]; rfl
    have HB := Veil.mk hB; clear hB
    rw [hd] at c16
    have HD := Veil.mk h
    clear h hk hb ho hd
    go_enter Try.func49, Try.ntmps49
    go_wp2
    go_ret
    refine ⟨?_, ?_, Fr.refl _ _⟩
    · rw [HB.out]; rfl
    · rw [HB.out]; exact HD.out
end
end Go.Proofs.Ytjicccjpooahoaa
