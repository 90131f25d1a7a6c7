/- The walks of truncate and Crash. -/
import Derived.Test.YtjicccjpooahoaaDiskWa
namespace Go.Proofs.Ytjicccjpooahoaa
set_option linter.unusedSectionVars false
set_option linter.unusedVariables false
set_option linter.unusedSimpArgs false
open Go.RowKit Dm
section
variable {S : Nat → Prop} {w : World} {g : Nat} {d : Dk}
theorem trunc_any (h : DRep w S g d) (i : Nat) (hi : i < 8) (n : Nat) (x : Int) (hn : n ≤ (d.fs i).data.length) (hx : x = (n : Int)) :
    Calls Try.prog 40 #[.pointer (some ⟨g, i * 2, none⟩), .int .i64 x] w fun e w' => e = .returned (.tuple #[]) ∧ DRep w' S g { d with fs := upd d.fs i ((d.fs i).trunc n) } ∧ Fr (fun b => b = g) w w' := by
  subst hx
  obtain ⟨A, c, cd, hc, h1⟩ := h.setTake i hi n hn
  have f0 := h.free (i * 2)
  have fr1 : Fr (fun b => b = g) w (w.setCell ⟨g, i * 2, none⟩ (.slice A n c)) := Fr.setCell (S := fun b => b = g) (p := ⟨g, i * 2, none⟩) rfl _
  have c1 := h1.cDur i hi
  simp only [upd_same] at c1
  have f1 := h1.free (i * 2 + 1)
  have h2 := h1.setDur i hi (min (d.fs i).dur n)
  simp only [upd_same] at h2
  have e2 : upd (upd d.fs i ⟨(d.fs i).data.take n, (d.fs i).dur⟩) i ⟨(d.fs i).data.take n, min (d.fs i).dur n⟩ = upd d.fs i ((d.fs i).trunc n) := by
    funext j
    unfold upd
    split <;> rfl
  rw [e2] at h2
  have H : ∀ q : Int, q = ((min (d.fs i).dur n : Nat) : Int) → DRep ((w.setCell ⟨g, i * 2, none⟩ (.slice A n c)).setCell ⟨g, i * 2 + 1, none⟩ (.int .i64 q)) S g { d with fs := upd d.fs i ((d.fs i).trunc n) } ∧ Fr (fun b => b = g) w ((w.setCell ⟨g, i * 2, none⟩ (.slice A n c)).setCell ⟨g, i * 2 + 1, none⟩ (.int .i64 q)) := by
    intro q hq
    subst hq
    exact ⟨h2, fr1.trans (Fr.setCell (S := fun b => b = g) (p := ⟨g, i * 2 + 1, none⟩) rfl _)⟩
  have H := Veil.mk H
  have hnc : (n : Int) ≤ c := by omega
  clear h h1 h2 e2 fr1
  generalize (d.fs i).dur = m at c1 H
  by_cases hm : m ≤ n
  · have hmi : ¬ (n : Int) < m := by omega
    go_enter Try.func40, Try.ntmps40
    go_wp2
    go_end0
    exact ⟨rfl, H.out _ (by omega)⟩
  · have hmi : (n : Int) < m := by omega
    go_enter Try.func40, Try.ntmps40
    go_wp2
    go_end0
    exact ⟨rfl, H.out _ (by omega)⟩
theorem Kp.keep2 {w w' : World} {v : Value} {ks : List Int} (h : Kp w v ks) (hk : ∀ b, bl v = some b → b < w.heap.size → w'.heap[b]? = w.heap[b]?) : Kp w' v ks := by
  obtain ⟨A, c, rfl, hc, hr⟩ := h
  refine ⟨A, c, rfl, hc, fun h0 => ?_⟩
  obtain ⟨b, o, rfl, h⟩ := hr h0
  refine ⟨b, o, rfl, fun j hj => ?_⟩
  have hb : bl (.slice (some ⟨b, o, none⟩) ks.length c) = some b := by
    obtain ⟨c', rfl⟩ := Nat.exists_eq_succ_of_ne_zero (show c ≠ 0 by omega)
    rfl
  have hlt := World.block_lt_of_cell? w _ (h 0 h0)
  rw [World.cell?_of_block (hk b hb hlt)]
  exact h j hj
theorem Kp.keep3 {w w' : World} {v : Value} {ks : List Int} (h : Kp w v ks) (hk : 0 < ks.length → ∀ b, bl v = some b → b < w.heap.size → w'.heap[b]? = w.heap[b]?) : Kp w' v ks := by
  by_cases h0 : 0 < ks.length
  · exact h.keep2 (hk h0)
  · obtain ⟨A, c, e, hc, _⟩ := h
    exact ⟨A, c, e, hc, fun h1 => absurd h1 h0⟩
theorem Kp.fr {w w' : World} {v : Value} {ks : List Int} {g : Nat} (h : Kp w v ks) (hb : 0 < ks.length → ∀ b, bl v = some b → b ≠ g) (hf : Fr (fun b => b = g) w w') : Kp w' v ks :=
  h.keep3 fun h0 b hv hlt => hf.block b hlt (hb h0 b hv)
/-- the first k files crashed -/
def fsK (d : Dk) (ks : List Int) (k : Nat) : Nat → Fl := fun j => if j < k then (d.fs j).crash (ks.getD j 0) else d.fs j
theorem fsK_at (d : Dk) (ks : List Int) (k : Nat) : fsK d ks k k = d.fs k := if_neg (Nat.lt_irrefl k)
theorem fsK_next (d : Dk) (ks : List Int) (k : Nat) : fsK d ks (k + 1) = upd (fsK d ks k) k ((d.fs k).crash (ks.getD k 0)) := by
  funext j
  unfold fsK upd
  by_cases h : j = k
  · subst h; rw [if_pos (by omega), if_pos rfl]
  · rw [if_neg h]
    by_cases h2 : j < k
    · rw [if_pos (by omega)]; exact (if_pos h2).symm
    · rw [if_neg (by omega)]; exact (if_neg h2).symm
theorem Kp.at' {w : World} {A : Option Addr} {n c : Nat} {ks : List Int} (h : Kp w (.slice A n c) ks) (k : Nat) (hk : k < ks.length) : ∃ b o, A = some ⟨b, o, none⟩ ∧ w.cell? ⟨b, o + k, none⟩ = some (.int .i64 (ks.getD k 0)) := by
  obtain ⟨A', c', hv, hc, hr⟩ := h
  simp only [Value.slice.injEq] at hv
  obtain ⟨rfl, _, rfl⟩ := hv
  obtain ⟨b, o, rfl, h⟩ := hr (by omega)
  exact ⟨b, o, rfl, h k hk⟩
theorem DRep.congr {d' : Dk} (h : DRep w S g d) (hf : ∀ i, i < 8 → d.fs i = d'.fs i) (h1 : d.down = d'.down) (h2 : d.lost = d'.lost) (h3 : d.armed = d'.armed) (h4 : d.keep = d'.keep) : DRep w S g d' := by
  obtain ⟨vs, kv, hr, h⟩ := h
  refine ⟨vs, kv, hr.congr fun j hj => ?_, h.head, fun i hi => by rw [← hf i hi]; exact h.fil i hi, h.own, h.apart, by rw [← h4]; exact h.kp, h.kown, h.kapart, h.klt⟩
  unfold cellD
  split
  · split
    · rfl
    · rw [hf _ (by omega)]
  · rw [h1, h2, h3]
theorem DRep.cLen (h : DRep w S g d) (i : Nat) (hi : i < 8) (n : Nat) (hn : (d.fs i).data.length = n) : ∃ A c, w.cell? ⟨g, i * 2, none⟩ = some (.slice A n c) ∧ n ≤ c := by
  subst hn
  obtain ⟨A, c, h1, h2, _⟩ := h.cData i hi
  exact ⟨A, c, h1, h2⟩
/-- one file crashed: shortened, and all of it durable -/
theorem crash_step (d : Dk) (ks : List Int) (k : Nat) (hok : (d.fs k).Ok) :
    (upd (fsK d ks k) k ((fsK d ks k k).trunc ((d.fs k).stay (ks.getD k 0))) k).data.length = (d.fs k).stay (ks.getD k 0) ∧
    upd (upd (fsK d ks k) k ((fsK d ks k k).trunc ((d.fs k).stay (ks.getD k 0)))) k ⟨(upd (fsK d ks k) k ((fsK d ks k k).trunc ((d.fs k).stay (ks.getD k 0))) k).data, (d.fs k).stay (ks.getD k 0)⟩ = fsK d ks (k + 1) := by
  have h := Fl.stay_le hok (ks.getD k 0)
  constructor
  · rw [upd_same, fsK_at]
    show ((d.fs k).data.take _).length = _
    rw [List.length_take]; omega
  · rw [fsK_next, upd_same, fsK_at]
    funext j
    unfold upd
    split
    · rfl
    · rfl
set_option maxRecDepth 100000 in
set_option maxHeartbeats 1000000 in
theorem crash_any (h : DRep w S g d) (ho : Ok d) (kv : Value) (ks : List Int) (hk : Kp w kv ks) (hb : 0 < ks.length → ∀ b, bl kv = some b → b ≠ g) :
    Calls Try.prog 23 #[.pointer (some ⟨g, 0, none⟩), kv] w fun e w' => e = .returned (.tuple #[]) ∧ DRep w' S g (crash d ks) ∧ Fr (fun b => b = g) w w' := by
  have c16 := h.cDown
  rcases hd : d.down
  · have hc : crash d ks = ⟨fun i => (d.fs i).crash (ks.getD i 0), true, d.lost, 0, []⟩ := by unfold crash; rw [hd]; rfl
    have Hc := Veil.mk hc; clear hc
    rw [hd] at c16
    have Hb := Veil.mk hb; clear hb
    have Ho := Veil.mk ho; clear ho
    obtain ⟨A, c, rfl, hkc, hkr⟩ := id hk
    have hk0 := Veil.mk hk; clear hk hkr
    have h0 : Veil (DRep w S g { d with fs := fsK d ks 0 }) := ⟨h⟩
    clear h
    go_enter Try.func23, Try.ntmps23
    go_wp2
    clear c16
    go_loopw [4, 5, 6, 11] (fun _ _ _ i wr => ∃ k : Nat, k ≤ 8 ∧ i = .int .i64 k ∧ Veil (DRep wr S g { d with fs := fsK d ks k }) ∧ Veil (Kp wr (.slice A ks.length c) ks) ∧ Veil (Fr (fun b => b = g) w wr)) (fun _ _ _ i _ => 8 - (intOf i).toNat)
    case atStart => exact ⟨0, by omega, rfl, h0, hk0, ⟨Fr.refl _ _⟩⟩
    case round =>
      clear h0 hk0
      obtain ⟨k, hk, rfl, HD, HK, HF⟩ := hrel
      by_cases hlt : k < 8
      · obtain ⟨A1, c1, cdat, hc1⟩ := HD.out.cLen k hlt (d.fs k).data.length (by simp only [fsK_at])
        have cdur := HD.out.cDur k hlt
        simp only [fsK_at] at cdur
        have hok := Ho.out.fs k
        have hdl := hok.dur
        have hll := hok.len
        have hst := Fl.stay_le hok (ks.getD k 0)
        have hsd : (d.fs k).stay (ks.getD k 0) = (d.fs k).dur + min ((d.fs k).data.length - (d.fs k).dur) (ks.getD k 0).toNat := rfl
        obtain ⟨cs1, cs2⟩ := crash_step d ks k hok
        have CS1 := Veil.mk cs1; have CS2 := Veil.mk cs2; clear cs1 cs2
        have Hst : Veil ((d.fs k).stay (ks.getD k 0) ≤ (fsK d ks k k).data.length) := ⟨by rw [fsK_at]; exact hst⟩
        clear hok hst
        generalize hS : (d.fs k).stay (ks.getD k 0) = st at hsd CS1 CS2 Hst
        have HS := Veil.mk hS; clear hS
        generalize (d.fs k).data.length = ln at *
        generalize (d.fs k).dur = du at *
        by_cases hkl : k < ks.length
        · obtain ⟨b, o, rfl, ck⟩ := HK.out.at' k hkl
          generalize ks.getD k 0 = q at *
          have hcase : (0 < q ∧ q < (ln : Int) - (du : Int)) ∨ (0 < q ∧ ¬ q < (ln : Int) - (du : Int)) ∨ (¬ 0 < q ∧ 0 < (ln : Int) - (du : Int)) ∨ (¬ 0 < q ∧ ¬ 0 < (ln : Int) - (du : Int)) := by omega
          rcases hcase with ⟨hq, hm⟩ | ⟨hq, hm⟩ | ⟨hq, hm⟩ | ⟨hq, hm⟩
          all_goals
            have Hsd := Veil.mk hsd; clear hsd
            go_wp2
            go_quiet (fail)
            have HDq := Veil.mk (HD.out.drewN nq)
            go_wp2_with (
              (go_at_call 40
               refine (trunc_any HDq.out k hlt st _ Hst.out (by have := Hsd.out; omega)).mono ?_
               rintro e w1 ⟨rfl, HD1, HF1⟩
               obtain ⟨A2, c2, cd2, hc2⟩ := HD1.cLen k hlt st CS1.out
               have f2 := HD1.free (k * 2 + 1)
               have c3 := HD1.cDur k hlt
               have HDr : Veil (DRep (w1.setCell ⟨g, k * 2 + 1, none⟩ (.int .i64 (st : Int))) S g { d with fs := fsK d ks (k + 1) }) := ⟨by rw [← CS2.out]; exact HD1.setDur k hlt st⟩
               have hFr := (Fr.drewN (S := fun b => b = g) wr nq).trans (HF1.trans (Fr.setCell (S := fun b => b = g) (p := ⟨g, k * 2 + 1, none⟩) rfl (.int .i64 (st : Int))))
               have HKr := Veil.mk (HK.out.fr Hb.out hFr)
               have HFr := Veil.mk (HF.out.trans hFr)
               clear HD1 HF1 hFr))
            go_roundw
            case rel => exact ⟨k + 1, by omega, by go_num, HDr, HKr, HFr⟩
            case measure => simp [intOf]; omega
        · have hq0 : ks.getD k 0 = 0 := by rw [List.getD_eq_getElem?_getD, List.getElem?_eq_none (by omega)]; rfl
          rw [hq0] at hsd
          have hkl2 : ¬ (k : Int) < ks.length := by omega
          clear hq0
          all_goals
            have Hsd := Veil.mk hsd; clear hsd
            go_wp2
            go_quiet (fail)
            have HDq := Veil.mk (HD.out.drewN nq)
            go_wp2_with (
              (go_at_call 40
               refine (trunc_any HDq.out k hlt st _ Hst.out (by have := Hsd.out; omega)).mono ?_
               rintro e w1 ⟨rfl, HD1, HF1⟩
               obtain ⟨A2, c2, cd2, hc2⟩ := HD1.cLen k hlt st CS1.out
               have f2 := HD1.free (k * 2 + 1)
               have c3 := HD1.cDur k hlt
               have HDr : Veil (DRep (w1.setCell ⟨g, k * 2 + 1, none⟩ (.int .i64 (st : Int))) S g { d with fs := fsK d ks (k + 1) }) := ⟨by rw [← CS2.out]; exact HD1.setDur k hlt st⟩
               have hFr := (Fr.drewN (S := fun b => b = g) wr nq).trans (HF1.trans (Fr.setCell (S := fun b => b = g) (p := ⟨g, k * 2 + 1, none⟩) rfl (.int .i64 (st : Int))))
               have HKr := Veil.mk (HK.out.fr Hb.out hFr)
               have HFr := Veil.mk (HF.out.trans hFr)
               clear HD1 HF1 hFr))
            go_roundw
            case rel => exact ⟨k + 1, by omega, by go_num, HDr, HKr, HFr⟩
            case measure => simp [intOf]; omega
      · have hk8 : 8 ≤ k := by omega
        have H0 : Veil (DRep wr S g { d with fs := (crash d ks).fs }) := ⟨HD.out.congr (fun i hi => by rw [Hc.out]; exact if_pos (show i < k from by omega)) rfl rfl rfl rfl⟩
        have c16 := H0.out.cDown
        have f16 := H0.out.free 16
        have H1 := Veil.mk (H0.out.setDown true)
        have c18 := H1.out.cArmed
        have f18 := H1.out.free 18
        have H2 : Veil (DRep ((wr.setCell ⟨g, 16, none⟩ (.bool true)).setCell ⟨g, 18, none⟩ (.int .i64 0)) S g { d with fs := (crash d ks).fs, down := true, armed := 0 }) := ⟨H1.out.setArmed 0⟩
        obtain ⟨kv, c19, _, _⟩ := H2.out.cKeep
        have f19 := H2.out.free 19
        have H3 : Veil (DRep (((wr.setCell ⟨g, 16, none⟩ (.bool true)).setCell ⟨g, 18, none⟩ (.int .i64 0)).setCell ⟨g, 19, none⟩ (.slice none 0 0)) S g (crash d ks)) := ⟨H2.out.setKeepNil.congr (fun _ _ => rfl) (by rw [Hc.out]) (by rw [Hc.out]) (by rw [Hc.out]) (by rw [Hc.out])⟩
        have HF3 : Veil (Fr (fun b => b = g) w (((wr.setCell ⟨g, 16, none⟩ (.bool true)).setCell ⟨g, 18, none⟩ (.int .i64 0)).setCell ⟨g, 19, none⟩ (.slice none 0 0))) :=
          ⟨HF.out.trans ((Fr.setCell (S := fun b => b = g) (p := ⟨g, 16, none⟩) rfl _).trans ((Fr.setCell (S := fun b => b = g) (p := ⟨g, 18, none⟩) rfl _).trans (Fr.setCell (S := fun b => b = g) (p := ⟨g, 19, none⟩) rfl _)))⟩
        clear hlt
        go_wp2
        go_end0
        exact ⟨rfl, H3.out, HF3.out⟩
  · have hc : crash d ks = d := by unfold crash; rw [if_pos hd]
    rw [hd] at c16
    have H0 : Veil (DRep w S g (crash d ks)) := ⟨by rw [hc]; exact h⟩
    clear h hc hk hb ho hd
    go_enter Try.func23, Try.ntmps23
    go_wp2
    refine bodyPost_ret (results_none rfl _ _ _) rfl ?_
    exact ⟨rfl, H0.out, Fr.refl _ _⟩
end
end Go.Proofs.Ytjicccjpooahoaa
