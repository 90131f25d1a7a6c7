/- The walks of slices.Clone, Arm and Copy. -/
import Derived.Test.YtjicccjpooahoaaDiskWg
namespace Go.Proofs.Ytjicccjpooahoaa
set_option linter.unusedSectionVars false
set_option linter.unusedVariables false
set_option linter.unusedSimpArgs false
open Go.RowKit Dm
theorem elemI : ElemOk Try.prog 48 3 1 8 := ElemOk.mk' (z := .int .i64 0) Try.underlying48 (by kernel_rfl) rfl (by omega)
def intC (ks : List Int) : List Value := ks.map (Value.int .i64)
theorem oneCell_int (ks : List Int) : ∀ u ∈ intC ks, u.oneCell' = true := by
  intro u hu
  obtain ⟨b, _, rfl⟩ := List.mem_map.1 hu
  rfl
theorem Kp.rd {w : World} {v : Value} {ks : List Int} (h : Kp w v ks) : Rd w w.heap.size 1 v (intC ks) := by
  obtain ⟨A, c, rfl, hc, hr⟩ := h
  refine ⟨A, ks.length, c, rfl, hc, by simp [intC], fun h0 => ?_⟩
  obtain ⟨b, o, rfl, h⟩ := hr h0
  refine ⟨_, rfl, World.block_lt_of_cell? w _ (h 0 h0), fun j u hu => ?_⟩
  rw [Addr.add_lit]
  unfold intC at hu
  rw [List.getElem?_map] at hu
  obtain ⟨x, hx, rfl⟩ := Option.map_eq_some_iff.1 hu
  have hj := (List.getElem?_eq_some_iff.1 hx).1
  rw [h j hj, List.getD_eq_getElem?_getD, hx]
  rfl
theorem Kp.of_own {w : World} {v : Value} {ks : List Int} {base : Nat} (h : Own w base 3 1 v (intC ks)) : Kp w v ks ∧ ∀ b, bl v = some b → base ≤ b ∧ b < w.heap.size := by
  have hb := h.block
  have hl : (intC ks).length = ks.length := by simp [intC]
  refine ⟨?_, fun b hbl => ?_⟩
  · rcases Nat.eq_zero_or_pos ks.length with h0 | h0
    · have hk : ks = [] := List.eq_nil_of_length_eq_zero h0
      subst hk
      obtain ⟨A, c, rfl⟩ := h.len1
      exact ⟨A, c, rfl, Nat.zero_le _, fun h => absurd h (by simp)⟩
    · obtain ⟨g, cap, hv, hc, _, _, hcell⟩ := h.form (by rw [hl]; exact h0)
      rw [hl] at hv hc
      refine ⟨_, cap, hv, hc, fun _ => ⟨g, 0, rfl, fun j hj => ?_⟩⟩
      rw [Nat.zero_add]
      exact hcell j _ (by unfold intC; rw [List.getElem?_map, List.getElem?_eq_getElem hj, List.getD_eq_getElem?_getD, List.getElem?_eq_getElem hj]; rfl)
  · refine hb b ?_
    rcases h with ⟨rfl, _⟩ | ⟨g, n, cap, cur, fr, rfl, _⟩
    · cases hbl
    · cases cap with
      | zero => cases hbl
      | succ c => exact hbl
theorem own_bl {w : World} {v : Value} {xs : List Value} {base : Nat} {e : TypeId} (h : Own w base e 1 v xs) : ∀ b, bl v = some b → base ≤ b ∧ b < w.heap.size := fun b hbl => by
  refine h.block b ?_
  rcases h with ⟨rfl, _⟩ | ⟨g, n, cap, cur, fr, rfl, _⟩
  · cases hbl
  · cases cap with
    | zero => cases hbl
    | succ c => exact hbl
theorem own_nil_lit (w : World) (e : TypeId) : Own (w.alloc (.cells #[] e)) w.heap.size e 1 (.slice (some ⟨w.heap.size, 0, none⟩) 0 0) [] :=
  Own.lit w [] 0 (Nat.le_refl _) (by unfold maxLen; omega) rfl
/-- new blocks only -/
theorem fresh_of {w w' : World} {n : Nat} {e : TypeId} (h : (w.alloc (.cells #[] e)).grownBy w' (Value.ownBlock (.slice (some ⟨w.heap.size, 0, none⟩) 0 n))) : w.grownBy w' none :=
  ⟨h.os, h.tape, h.output, Nat.le_trans (by simp) h.size, fun k hk _ => (h.block k (by simp; omega) (fun e => by simp [Value.ownBlock] at e; omega)).trans (heap_alloc_old w _ hk)⟩
theorem clone_int (w : World) (kv : Value) (ks : List Int) (hk : Kp w kv ks) (hl : ks.length ≤ 1000000) :
    Calls Try.prog 52 #[kv] w fun e w' => ∃ kv', e = .returned kv' ∧ Kp w' kv' ks ∧ w.grownBy w' none ∧ ∀ b, bl kv' = some b → w.heap.size ≤ b ∧ b < w'.heap.size := by
  have hrd := Veil.mk hk.rd
  have hoc := Veil.mk (oneCell_int ks)
  have H0 := Veil.mk (own_nil_lit w 3)
  have hR3 := Veil.mk (hrd.out.alloc (Nat.le_refl _) (.cells #[] 3))
  have hlen : (intC ks).length = ks.length := by simp [intC]
  have Hlen := Veil.mk hlen; clear hlen
  obtain ⟨A, c, rfl, hc, hr⟩ := hk
  cases A with
  | none =>
    have h0 : ks.length = 0 := by
      rcases Nat.eq_zero_or_pos ks.length with h | h
      · exact h
      · obtain ⟨b, o, h, _⟩ := hr h; cases h
    have hks : ks = [] := List.eq_nil_of_length_eq_zero h0
    clear hr hrd hR3
    subst hks
    have he : ∀ W : World, (binOp .eql 48 (.slice none 0 c) (.slice none 0 0)).run Try.prog W = .ok (.bool true) W := fun _ => rfl
    simp only [List.length_nil] at hl hc ⊢
    go_enter Try.func52, Try.ntmps52
    go_wp2
    go_ret
    exact ⟨_, rfl, Kp.nil w, ⟨rfl, rfl, rfl, Nat.le_refl _, fun _ _ _ => rfl⟩, fun b hb => by cases hb⟩
  | some a =>
    clear hr
    have he : ∀ W : World, (binOp .eql 48 (.slice (some a) ks.length c) (.slice none 0 0)).run Try.prog W = .ok (.bool false) W := fun _ => rfl
    go_enter Try.func52, Try.ntmps52
    go_wp2_with (at_builtin; refine ap_any (w.alloc (.cells #[] 3)) rfl _ _ _ rfl elemI H0.out rfl hR3.out rfl hoc.out ?_ ?_ (by simp) ?_; rotate_left 2; intro v' w' own' gr' hx; clear hx)
    rotate_left 1
    · simp only [List.length_nil]; rw [Hlen.out]; omega
    · simp only [List.length_nil]; rw [Hlen.out]; omega
    have hK := Kp.of_own (ks := ks) own'
    go_ret
    exact ⟨_, rfl, hK.1, fresh_of gr', hK.2⟩
section
variable {S : Nat → Prop} {w : World} {g : Nat} {d : Dk}
theorem arm_any (h : DRep w S g d) (hS : ∀ b, w.heap.size ≤ b → S b) (n : Int) (kv : Value) (ks : List Int) (hk : Kp w kv ks) (hkb : 0 < ks.length → ∀ b, bl kv = some b → b ≠ g) (hl : ks.length ≤ 1000000) :
    Calls Try.prog 42 #[.pointer (some ⟨g, 0, none⟩), .int .i64 n, kv] w fun e w' => e = .returned (.tuple #[]) ∧ DRep w' S g (armD d n ks) ∧ Fr S w w' := by
  have c18 := h.cArmed
  have f18 := h.free 18
  have hK1 : ∀ q : Int, Kp (w.setCell ⟨g, 18, none⟩ (.int .i64 q)) kv ks := fun q => hk.keep3 fun h0 b hb _ => Below.heap_setCell w _ _ b (hkb h0 b hb)
  have HD1 : Veil (∀ q : Int, q = ((n.toNat : Nat) : Int) → DRep (w.setCell ⟨g, 18, none⟩ (.int .i64 q)) S g { d with armed := n.toNat }) := ⟨fun q hq => by subst hq; exact h.setArmed n.toNat⟩
  have HS := Veil.mk (show ∀ q : Int, ∀ b, (w.setCell ⟨g, 18, none⟩ (.int .i64 q)).heap.size ≤ b → S b from fun q b hb => hS b (by simpa using hb))
  have HF1 : Veil (∀ q : Int, Fr S w (w.setCell ⟨g, 18, none⟩ (.int .i64 q))) := ⟨fun q => Fr.setCell (p := ⟨g, 18, none⟩) h.at' _⟩
  have HK1 := Veil.mk hK1
  have HgS := Veil.mk h.at'
  clear hK1 hk hkb h hS
  have key : Veil (∀ (q : Int) (w1 : World) (kv' : Value), q = ((n.toNat : Nat) : Int) → Kp w1 kv' ks → (w.setCell ⟨g, 18, none⟩ (.int .i64 q)).grownBy w1 none → (∀ b, bl kv' = some b → (w.setCell ⟨g, 18, none⟩ (.int .i64 q)).heap.size ≤ b ∧ b < w1.heap.size) →
      (∃ u, w1.cell? ⟨g, 19, none⟩ = some u) ∧ w1.frozen? ⟨g, 19, none⟩ = false ∧ DRep (w1.setCell ⟨g, 19, none⟩ kv') S g (armD d n ks) ∧ Fr S w (w1.setCell ⟨g, 19, none⟩ kv')) := ⟨by
    intro q w1 kv' hq hK hg hb
    have h1 := HD1.out q hq
    have h2 : DRep w1 S g { d with armed := n.toNat } := h1.keep fun b _ hlt => hg.block b hlt (by simp)
    refine ⟨?_, h2.free 19, h1.setKeepNew hg hK hb (HS.out q), ?_⟩
    · obtain ⟨u, hu, _⟩ := h2.cKeep; exact ⟨u, hu⟩
    · exact (HF1.out q).trans ((Fr.grown hg fun b h => by cases h).trans (Fr.setCell (p := ⟨g, 19, none⟩) HgS.out _))⟩
  clear HD1 HS HF1 HgS
  by_cases h0 : 0 ≤ n
  · have e : n = ((n.toNat : Nat) : Int) := by omega
    have E := Veil.mk e; clear e
    go_enter Try.func42, Try.ntmps42
    go_wp2_with ((go_at_call 52
                  refine (clone_int _ kv ks (HK1.out _) hl).mono ?_
                  rintro e w1 ⟨kv', rfl, hK, hg, hb⟩
                  obtain ⟨⟨u, cu⟩, fu, hD, hF⟩ := key.out _ w1 kv' E.out hK hg hb
                  obtain ⟨A', c', hv', hc', hr'⟩ := hK
                  subst hv'
                  have HD := Veil.mk (And.intro hD hF)
                  clear hD hF hr' hg hb))
    go_end0
    exact ⟨rfl, HD.out⟩
  · have e : (0 : Int) = ((n.toNat : Nat) : Int) := by omega
    have E := Veil.mk e; clear e
    go_enter Try.func42, Try.ntmps42
    go_wp2_with ((go_at_call 52
                  refine (clone_int _ kv ks (HK1.out _) hl).mono ?_
                  rintro e w1 ⟨kv', rfl, hK, hg, hb⟩
                  obtain ⟨⟨u, cu⟩, fu, hD, hF⟩ := key.out _ w1 kv' E.out hK hg hb
                  obtain ⟨A', c', hv', hc', hr'⟩ := hK
                  subst hv'
                  have HD := Veil.mk (And.intro hD hF)
                  clear hD hF hr' hg hb))
    go_end0
    exact ⟨rfl, HD.out⟩
end
end Go.Proofs.Ytjicccjpooahoaa
