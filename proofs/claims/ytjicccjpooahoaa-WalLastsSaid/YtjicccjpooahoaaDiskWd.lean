/- The walk of Append. -/
import Derived.Test.YtjicccjpooahoaaDiskWc
import Derived.Deep.RegionLaw
namespace Go.Proofs.Ytjicccjpooahoaa
set_option linter.unusedSectionVars false
set_option linter.unusedVariables false
set_option linter.unusedSimpArgs false
open Go.RowKit Dm
theorem step_ap_str {P : Program} {ops : Array Oper} {o : Oper} {a : Act} {K : Act → World → Prop} {Q : Exit → Act → World → Prop} {E : Prop} (w : World) (hgd : o.guard = none) (s x : Operand) (t u : TypeId)
    (ho : o.op = .call { callee := .builtin .append, args := #[s, x], argTypes := #[t, u] }) (ht : P.underlying t = some (.slice 5)) (hu : P.underlying u = some .string)
    (hE : ElemOk P t 5 1 1) (hz : ∀ i, P.info? 5 = some i → i.zero = some (.int .u8 0)) {v : Value} {l : List UInt8} (hf : Fil w v l) (hs : a.eval s = v) (str : ByteArray) (hx : a.eval x = .string str) (hb : l.length + str.size ≤ 140737488355328)
    (h : ∀ v' w', Fil w' v' (l ++ str.data.toList) → w.grownBy w' (bl v) → (bl v' = bl v ∨ bl v' = some w.heap.size) → K (a.put o.dst v') w') : if Region.wanted o (yielded ops a.tmps) = true then Oper.wp P o a w K Q else E := by
  have hw : Region.wanted o (yielded ops a.tmps) = true := by simp [Region.wanted, hgd]
  rw [if_pos hw]
  obtain ⟨v', w', hrun, h2, h3, h4⟩ := hf.append t u o.type ht hu hE hz str hb
  unfold Oper.wp execOp
  simp only [ho, resolve, invoke, builtin, Sem.run_bind, Sem.run_pure, Result.andThen_ok, List.map_toArray, List.map_cons, List.map_nil, hs, hx, hrun]
  exact h v' w' h2 h3 h4
theorem zero8 : ∀ i, Try.prog.info? 5 = some i → i.zero = some (.int .u8 0) := fun i h => by
  have : (Try.prog.info? 5).map (·.zero) = some (some (.int .u8 0)) := by kernel_rfl
  rw [h] at this
  simpa using this
section
variable {S : Nat → Prop} {w : World} {g : Nat} {d : Dk}
set_option maxRecDepth 100000 in
set_option maxHeartbeats 2000000 in
theorem append_any (h : DRep w S g d) (ho : Ok d) (hS : ∀ b, w.heap.size ≤ b → S b) (f : Int) (s : ByteArray) (hs : s.size ≤ 9223372036854775807) :
    Calls Try.prog 14 #[.pointer (some ⟨g, 0, none⟩), .int .i64 f, .string s] w fun e w' => e = .returned (.int .i64 (appendD d f s.data.toList).1) ∧ DRep w' S g (appendD d f s.data.toList).2 ∧ Fr S w w' := by
  have c16 := h.cDown
  have hsl : s.data.toList.length = s.size := by simp
  have hgS := Veil.mk (show ∀ b, b = g → S b from fun b hb => by rw [hb]; exact h.at')
  rcases hd : d.down
  · rw [hd] at c16
    rcases hk : kn f
    · have hA : appendD d f s.data.toList = struck d 1 := by unfold appendD; rw [hd, hk]; rfl
      have HA := Veil.mk hA; clear hA
      have HD := Veil.mk h; have HO := Veil.mk ho
      clear h ho hd hS hsl
      rcases hst : (strikes d).1
      all_goals
        have HA2 := Veil.mk (HA.out.trans (by first | exact struck_miss hst | exact struck_hit hst))
        go_enter Try.func14, Try.ntmps14
        go_wp2_with (first
          | (go_at_call 29; refine (known_any _ _).mono ?_; rintro e w2 ⟨rfl, rfl⟩)
          | (go_at_call 30
             refine (strikes_any HD.out HO.out).mono ?_
             rintro e w1 ⟨rfl, HD1, HF1⟩
             obtain ⟨kv, ckv, hkp, hkb⟩ := HD1.cKeep
             have HKp := Veil.mk hkp
             have HKb := Veil.mk hkb
             have HD1 := Veil.mk HD1
             have HF1 := Veil.mk HF1
             clear hkp hkb)
          | (go_at_call 23
             refine (crash_any HD1.out (strikes_ok HO.out) _ _ HKp.out (fun _ => HKb.out)).mono ?_
             rintro e w2 ⟨rfl, HD2, HF2⟩
             have HD1 := Veil.mk HD2
             have HF1 := Veil.mk (HF1.out.trans HF2)))
        go_ret
        refine ⟨?_, ?_, HF1.out.more hgS.out⟩
        · rw [HA2.out]; rfl
        · rw [HA2.out]; exact HD1.out
    · obtain ⟨n, rfl, hn⟩ := kn_form hk
      have hlen := (ho.fs n).len
      by_cases hfull : 16777216 < (d.fs n).data.length + s.size
      · have hA : appendD d (n : Int) s.data.toList = struck d 7 := by unfold appendD; rw [hd, hk, hsl, if_neg (by simp), if_neg (by simp)]; exact if_pos hfull
        have HA := Veil.mk hA; clear hA
        obtain ⟨A, c, cn, hc, _⟩ := h.cData n hn
        have hfi : (16777216 : Int) - ((d.fs n).data.length : Int) < (s.size : Int) := by omega
        have HD := Veil.mk h; have HO := Veil.mk ho
        clear h ho hd hS hsl hfull
        generalize (d.fs n).data.length = ln at *
        rcases hst : (strikes d).1
        all_goals
          have HA2 := Veil.mk (HA.out.trans (by first | exact struck_miss hst | exact struck_hit hst))
          go_enter Try.func14, Try.ntmps14
          go_wp2_with (first
            | (go_at_call 29; refine (known_any _ _).mono ?_; rintro e w2 ⟨rfl, rfl⟩)
            | (go_at_call 30
               refine (strikes_any HD.out HO.out).mono ?_
               rintro e w1 ⟨rfl, HD1, HF1⟩
               obtain ⟨kv, ckv, hkp, hkb⟩ := HD1.cKeep
               have HKp := Veil.mk hkp
               have HKb := Veil.mk hkb
               have HD1 := Veil.mk HD1
               have HF1 := Veil.mk HF1
               clear hkp hkb)
            | (go_at_call 23
               refine (crash_any HD1.out (strikes_ok HO.out) _ _ HKp.out (fun _ => HKb.out)).mono ?_
               rintro e w2 ⟨rfl, HD2, HF2⟩
               have HD1 := Veil.mk HD2
               have HF1 := Veil.mk (HF1.out.trans HF2)))
          go_ret
          refine ⟨?_, ?_, HF1.out.more hgS.out⟩
          · rw [HA2.out]; rfl
          · rw [HA2.out]; exact HD1.out
      · have hA : appendD d (n : Int) s.data.toList = struck { d with fs := upd d.fs n ⟨(d.fs n).data ++ s.data.toList, (d.fs n).dur⟩ } 0 := by unfold appendD; rw [hd, hk, hsl, if_neg (by simp), if_neg (by simp)]; exact if_neg hfull
        have HA := Veil.mk hA; clear hA
        have hoD : Ok { d with fs := upd d.fs n ⟨(d.fs n).data ++ s.data.toList, (d.fs n).dur⟩ } := ⟨upd_ok ho.fs _ ⟨by have := (ho.fs n).dur; simp only [List.length_append]; omega, by simp only [List.length_append]; omega⟩, ho.lost, ho.armed⟩
        have HO := Veil.mk hoD; clear hoD
        obtain ⟨vs, kv, hr, h3⟩ := h
        obtain ⟨A, c, hv, hc⟩ := (h3.fil n hn).form
        have cn := hr.cell (i := n * 2) (by omega)
        rw [cellD_data _ _ _ _ hn, hv] at cn
        have hfil := Veil.mk (h3.fil n hn)
        have hap := Veil.mk (fun {w' : World} {v : Value} {l : List UInt8} (hf : Fil w' v l) (hg : w.drew.grownBy w' (bl (vs n))) (hb : bl v = bl (vs n) ∨ bl v = some w.drew.heap.size) =>
          DRep.appended (w := w.drew) hr ⟨h3.head, h3.fil, h3.own, h3.apart, h3.kp, h3.kown, h3.kapart, h3.klt⟩ n hn hf hg hb (hS _ (Nat.le_refl _)))
        have hfi : ¬ (16777216 : Int) - ((d.fs n).data.length : Int) < (s.size : Int) := by omega
        have hsz : (d.fs n).data.length + s.size ≤ 140737488355328 := by omega
        have Hsz := Veil.mk hsz
        have hn8 : (n : Int) < 8 := by omega
        have Hlen : Veil (((d.fs n).data ++ s.data.toList).length = (d.fs n).data.length + s.size) := ⟨by rw [List.length_append, hsl]⟩
        rw [hv] at hfil hap
        clear hr h3 ho hd hS hfull hsz hv
        clear hsl
        go_enter Try.func14, Try.ntmps14
        go_wp2_with (first
          | (go_at_call 29; refine (known_any _ _).mono ?_; rintro e w2 ⟨rfl, rfl⟩))
        go_region_law (refine step_ap_str w.drew rfl (.tmp 37) (.tmp 38) _ _ rfl Try.underlying58 Try.underlying9 elem8 zero8 hfil.out rfl s rfl Hsz.out ?_; intro v' w' hf' hg' hb'; obtain ⟨A', c', hv', hc'⟩ := hf'.form; rw [Hlen.out] at hv' hc'; subst hv'; obtain ⟨cc, ff, HD0, HF0⟩ := hap.out hf' hg' hb'; have HD0 := Veil.mk HD0; have HF0 := Veil.mk HF0; clear hf' hg' hb')
        all_goals
          rcases hst : (strikes { d with fs := upd d.fs n ⟨(d.fs n).data ++ s.data.toList, (d.fs n).dur⟩ }).1
          all_goals
            have HA2 := Veil.mk (HA.out.trans (by first | exact struck_miss hst | exact struck_hit hst))
            go_wp2_with (first
              | (go_at_call 30
                 refine (strikes_any HD0.out HO.out).mono ?_
                 rintro e w1 ⟨rfl, HD1, HF1⟩
                 obtain ⟨kv, ckv, hkp, hkb⟩ := HD1.cKeep
                 have HKp := Veil.mk hkp
                 have HKb := Veil.mk hkb
                 have HD1 := Veil.mk HD1
                 have HF1 := Veil.mk (HF0.out.trans (HF1.more hgS.out))
                 clear hkp hkb)
              | (go_at_call 23
                 refine (crash_any HD1.out (strikes_ok HO.out) _ _ HKp.out (fun _ => HKb.out)).mono ?_
                 rintro e w2 ⟨rfl, HD2, HF2⟩
                 have HD1 := Veil.mk HD2
                 have HF1 := Veil.mk (HF1.out.trans (HF2.more hgS.out))))
            go_ret
            refine ⟨?_, ?_, (Fr.drewN w 1).trans HF1.out⟩
            · rw [HA2.out]; rfl
            · rw [HA2.out]; exact HD1.out
  · have hA : appendD d f s.data.toList = (8, d) := by unfold appendD; rw [if_pos hd]
    have HA := Veil.mk hA; clear hA
    rw [hd] at c16
    have HD := Veil.mk h
    clear h ho hd hS hsl
    go_enter Try.func14, Try.ntmps14
    go_wp2
    go_ret
    refine ⟨?_, ?_, Fr.refl _ _⟩
    · rw [HA.out]; rfl
    · rw [HA.out]; exact HD.out
end
end Go.Proofs.Ytjicccjpooahoaa
