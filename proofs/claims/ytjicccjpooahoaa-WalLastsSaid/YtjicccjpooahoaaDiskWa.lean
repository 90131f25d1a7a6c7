/- The walks of package disk's small functions: known, Down, Start, strikes, Lose, Size, Read. -/
import Derived.Test.YtjicccjpooahoaaDiskS
import Derived.WalkKit
import Derived.ProofKit
import Derived.WalkSpells
import Derived.Lib.Hide
import Derived.WalkLawsBesides
import Derived.BigQuiet
import Derived.StillTailTactics
namespace Go.Proofs.Ytjicccjpooahoaa
set_option linter.unusedSectionVars false
set_option linter.unusedVariables false
set_option linter.unusedSimpArgs false
open Go.RowKit Dm
theorem elem8 : ElemOk Try.prog 58 5 1 1 := ElemOk.mk' (z := .int .u8 0) Try.underlying58 (by kernel_rfl) rfl (by omega)
theorem known_any (f : Int) (w : World) : Calls Try.prog 29 #[.int .i64 f] w fun e w' => e = .returned (.bool (kn f)) ∧ w = w' := by
  have e1 : 0 ≤ f → kn f = decide (f < 8) := fun h => by unfold kn; rw [decide_eq_true h]; rfl
  have e2 : f < 0 → kn f = false := fun h => by unfold kn; rw [decide_eq_false (show ¬ 0 ≤ f from by omega)]; rfl
  have E1 := Veil.mk e1
  have E2 := Veil.mk e2
  clear e1 e2
  by_cases h1 : 0 ≤ f
  · go_enter Try.func29, Try.ntmps29
    go_wp2
    go_ret
    exact ⟨by rw [E1.out h1]; rfl, rfl⟩
  · have h2 : f < 0 := by omega
    go_enter Try.func29, Try.ntmps29
    go_wp2
    go_ret
    exact ⟨by rw [E2.out h2]; rfl, rfl⟩
section
variable {S : Nat → Prop} {w : World} {g : Nat} {d : Dk}
theorem DRep.cDown (h : DRep w S g d) : w.cell? ⟨g, 16, none⟩ = some (.bool d.down) := by
  obtain ⟨vs, kv, hr, h⟩ := h; exact hr.cell (i := 16) (by omega)
theorem DRep.cLost (h : DRep w S g d) : w.cell? ⟨g, 17, none⟩ = some (.int .i64 (d.lost : Int)) := by
  obtain ⟨vs, kv, hr, h⟩ := h; exact hr.cell (i := 17) (by omega)
theorem DRep.cArmed (h : DRep w S g d) : w.cell? ⟨g, 18, none⟩ = some (.int .i64 (d.armed : Int)) := by
  obtain ⟨vs, kv, hr, h⟩ := h; exact hr.cell (i := 18) (by omega)
theorem DRep.cKeep (h : DRep w S g d) : ∃ kv, w.cell? ⟨g, 19, none⟩ = some kv ∧ Kp w kv d.keep ∧ ∀ b, bl kv = some b → b ≠ g := by
  obtain ⟨vs, kv, hr, h⟩ := h; exact ⟨kv, hr.cell (i := 19) (by omega), h.kp, fun b hb => (h.kown b hb).2⟩
theorem DRep.cDur (h : DRep w S g d) (i : Nat) (hi : i < 8) : w.cell? ⟨g, i * 2 + 1, none⟩ = some (.int .i64 ((d.fs i).dur : Int)) := by
  obtain ⟨vs, kv, hr, h⟩ := h; rw [hr.cell (by omega), cellD_dur _ _ _ _ hi]
theorem DRep.cData (h : DRep w S g d) (i : Nat) (hi : i < 8) : ∃ A c, w.cell? ⟨g, i * 2, none⟩ = some (.slice A (d.fs i).data.length c) ∧ (d.fs i).data.length ≤ c ∧ Fil w (.slice A (d.fs i).data.length c) (d.fs i).data := by
  obtain ⟨vs, kv, hr, h⟩ := h
  obtain ⟨A, c, hv, hc⟩ := (h.fil i hi).form
  refine ⟨A, c, ?_, hc, ?_⟩
  · rw [hr.cell (by omega), cellD_data _ _ _ _ hi, hv]
  · rw [← hv]; exact h.fil i hi
theorem DRep.free (h : DRep w S g d) (j : Nat) : w.frozen? ⟨g, j, none⟩ = false := by
  obtain ⟨vs, kv, hr, h⟩ := h; exact hr.frozen j
theorem DRep.at' (h : DRep w S g d) : S g := by
  obtain ⟨vs, kv, hr, h⟩ := h; exact h.head
theorem DRep.lt (h : DRep w S g d) : g < w.heap.size := by
  obtain ⟨vs, kv, hr, h⟩ := h; exact hr.lt
theorem down_any (h : DRep w S g d) : Calls Try.prog 26 #[.pointer (some ⟨g, 0, none⟩)] w fun e w' => e = .returned (.bool d.down) ∧ w = w' := by
  have c16 := h.cDown
  clear h
  go_enter Try.func26, Try.ntmps26
  go_wp2
  go_ret
  exact ⟨rfl, rfl⟩
theorem kn_form {f : Int} (h : kn f = true) : ∃ n : Nat, f = (n : Int) ∧ n < 8 := by
  have hf : 0 ≤ f ∧ f < 8 := by simpa [kn] using h
  exact ⟨f.toNat, by omega, by omega⟩
theorem size_any (h : DRep w S g d) (f : Int) : Calls Try.prog 19 #[.pointer (some ⟨g, 0, none⟩), .int .i64 f] w fun e w' => e = .returned (.int .i64 (size d f : Int)) ∧ w = w' := by
  rcases hk : kn f
  · have hs : size d f = 0 := by unfold size; rw [hk]; rfl
    have Hs := Veil.mk hs
    clear h hs
    go_enter Try.func19, Try.ntmps19
    go_wp2_with (go_at_call 29; refine (known_any _ _).mono ?_; rintro e w1 ⟨rfl, rfl⟩)
    go_ret
    exact ⟨by rw [Hs.out]; rfl, rfl⟩
  · obtain ⟨n, rfl, hn⟩ := kn_form hk
    have hs : size d (n : Int) = (d.fs n).data.length := by unfold size; rw [hk]; rfl
    have Hs := Veil.mk hs
    obtain ⟨A, c, cn, hc, _⟩ := h.cData n hn
    clear hs h
    go_enter Try.func19, Try.ntmps19
    go_wp2_with (go_at_call 29; refine (known_any _ _).mono ?_; rintro e w1 ⟨rfl, rfl⟩)
    go_ret
    exact ⟨by rw [Hs.out]; rfl, rfl⟩
theorem read_any (h : DRep w S g d) (f : Int) : Calls Try.prog 18 #[.pointer (some ⟨g, 0, none⟩), .int .i64 f] w fun e w' => e = .returned (.tuple #[.string ⟨(peek d f).1.toArray⟩, .int .i64 (peek d f).2]) ∧ w = w' := by
  have c16 := h.cDown
  rcases hd : d.down
  · rw [hd] at c16
    rcases hk : kn f
    · have hs : peek d f = ([], 1) := by unfold peek; rw [hk, hd]; rfl
      have Hs := Veil.mk hs
      clear h hs hd
      go_enter Try.func18, Try.ntmps18
      go_wp2_with (go_at_call 29; refine (known_any _ _).mono ?_; rintro e w1 ⟨rfl, rfl⟩)
      go_ret2
      exact ⟨by rw [Hs.out]; rfl, rfl⟩
    · obtain ⟨n, rfl, hn⟩ := kn_form hk
      have hs : peek d (n : Int) = ((d.fs n).data, 0) := by unfold peek; rw [hk, hd]; rfl
      have Hs := Veil.mk hs
      obtain ⟨A, c, cn, hc, hfil⟩ := h.cData n hn
      have hrun := str_run (P := Try.prog) w 58 9 5 Try.underlying58 Try.underlying5 Try.underlying9 hfil.rd
      clear hs h hd hfil
      go_enter Try.func18, Try.ntmps18
      go_wp2_with (go_at_call 29; refine (known_any _ _).mono ?_; rintro e w1 ⟨rfl, rfl⟩)
      go_ret2
      exact ⟨by rw [Hs.out]; rfl, rfl⟩
  · rw [hd] at c16
    have hs : peek d f = ([], 8) := by unfold peek; rw [hd]; rfl
    have Hs := Veil.mk hs
    clear h hs hd
    go_enter Try.func18, Try.ntmps18
    go_wp2
    go_ret2
    exact ⟨by rw [Hs.out]; rfl, rfl⟩
theorem start_any (h : DRep w S g d) : Calls Try.prog 24 #[.pointer (some ⟨g, 0, none⟩)] w fun e w' => e = .returned (.tuple #[]) ∧ DRep w' S g (bring d) ∧ Fr (fun b => b = g) w w' := by
  have c16 := h.cDown
  have f16 := h.free 16
  have H := Veil.mk (And.intro (h.setDown false) (Fr.setCell (S := fun b => b = g) (w := w) (p := ⟨g, 16, none⟩) rfl (.bool false)))
  clear h
  go_enter Try.func24, Try.ntmps24
  go_wp2
  go_end0
  exact ⟨rfl, H.out⟩
theorem lose_any (h : DRep w S g d) (n : Int) (_hn : n ≤ 9223372036854775807) : Calls Try.prog 41 #[.pointer (some ⟨g, 0, none⟩), .int .i64 n] w fun e w' => e = .returned (.tuple #[]) ∧ DRep w' S g (lose d n) ∧ Fr (fun b => b = g) w w' := by
  have c17 := h.cLost
  have f17 := h.free 17
  have H := Veil.mk (And.intro (h.setLost n.toNat) (Fr.setCell (S := fun b => b = g) (w := w) (p := ⟨g, 17, none⟩) rfl (.int .i64 (n.toNat : Int))))
  clear h
  by_cases h0 : 0 ≤ n
  · have e : (n.toNat : Int) = n := by omega
    rw [e] at H
    clear e
    go_enter Try.func41, Try.ntmps41
    go_wp2
    go_end0
    exact ⟨rfl, H.out⟩
  · have e : (n.toNat : Int) = 0 := by omega
    rw [e] at H
    clear e
    go_enter Try.func41, Try.ntmps41
    go_wp2
    go_end0
    exact ⟨rfl, H.out⟩
theorem strikes_any (h : DRep w S g d) (ho : Ok d) : Calls Try.prog 30 #[.pointer (some ⟨g, 0, none⟩)] w fun e w' => e = .returned (.bool (strikes d).1) ∧ DRep w' S g (strikes d).2 ∧ Fr (fun b => b = g) w w' := by
  have c18 := h.cArmed
  have f18 := h.free 18
  have hb := ho.armed
  by_cases h0 : d.armed = 0
  · have e : strikes d = (false, d) := by unfold strikes; rw [if_pos h0]
    have H : Veil (DRep w S g (strikes d).2 ∧ (strikes d).1 = false) := ⟨by rw [e]; exact ⟨h, rfl⟩⟩
    clear h e
    rw [h0] at c18
    clear h0 hb ho
    go_enter Try.func30, Try.ntmps30
    go_wp2
    go_ret
    exact ⟨by rw [H.out.2]; rfl, H.out.1, Fr.refl _ _⟩
  · obtain ⟨n, hn⟩ : ∃ n, d.armed = n + 1 := ⟨d.armed - 1, by omega⟩
    have e : strikes d = (decide (n = 0), { d with armed := n }) := by
      unfold strikes
      rw [if_neg h0, hn]
      simp
    have H1 := h.setArmed n
    have c2 := H1.cArmed
    have H : Veil (DRep (w.setCell ⟨g, 18, none⟩ (.int .i64 (n : Int))) S g (strikes d).2 ∧ (strikes d).1 = decide (n = 0) ∧ Fr (fun b => b = g) w (w.setCell ⟨g, 18, none⟩ (.int .i64 (n : Int)))) := ⟨by rw [e]; exact ⟨H1, rfl, Fr.setCell (S := fun b => b = g) (p := ⟨g, 18, none⟩) rfl _⟩⟩
    clear h e H1
    rw [hn] at c18 hb
    have hn1 : (((n + 1 : Nat) : Int)) - 1 = (n : Int) := by omega
    clear hn h0 ho
    go_enter Try.func30, Try.ntmps30
    go_wp2
    go_ret
    refine ⟨?_, H.out.1, H.out.2.2⟩
    rw [H.out.2.1]
    show Ending.returned (.bool ((n : Int) == 0)) = _
    rw [show ((n : Int) == 0) = decide (n = 0) from by by_cases h : n = 0 <;> simp [h]]
end
end Go.Proofs.Ytjicccjpooahoaa
