/- The walk of a strings.Builder: what WriteString and String do, as contracts on plain values. -/
import Derived.Test.YtjicccjpooahoaaDiskX
import Derived.Test.YtjicccjpooahoaaDiskWd
import Derived.Lib.Builder
import Derived.Lib.UnsafeStr
import Derived.Lib.AppendStr
import Derived.Laws.Externs
set_option linter.unusedSectionVars false
set_option linter.unusedVariables false
set_option linter.unusedSimpArgs false
namespace Go.Proofs.Ytjicccjpooahoaa
open Go Go.RowKit Dm
def BRep (w : World) (S : Nat → Prop) (b : Nat) (l : List UInt8) : Prop :=
 ∃ p v, w.heap[b]? = some (.cells #[p, v] 74 (0, 0)) ∧ (p = .pointer none ∨ p = .pointer (some ⟨b, 0, none⟩)) ∧ Fil w v l ∧ (l = [] → v = .slice none 0 0) ∧ S b ∧ ∀ c, bl v = some c → S c ∧ c ≠ b
section
variable {w w' : World} {S : Nat → Prop} {b : Nat} {l : List UInt8}
theorem BRep.lt (h : BRep w S b l) : b < w.heap.size := by
 obtain ⟨p, v, h, _⟩ := h
 exact (Array.getElem?_eq_some_iff.1 h).1
theorem BRep.more {T : Nat → Prop} (h : BRep w S b l) (hs : ∀ b, S b → T b) : BRep w T b l := by
 obtain ⟨p, v, h1, h2, h3, h6, h4, h5⟩ := h
 exact ⟨p, v, h1, h2, h3, h6, hs _ h4, fun c hc => ⟨hs _ (h5 c hc).1, (h5 c hc).2⟩⟩
theorem BRep.keepS (h : BRep w S b l) (hs : ∀ b, S b ∧ b < w.heap.size → w'.heap[b]? = w.heap[b]?) : BRep w' (fun b => S b ∧ b < w.heap.size) b l := by
 have hlt := h.lt
 obtain ⟨p, v, h1, h2, h3, h6, h4, h5⟩ := h
 exact ⟨p, v, (hs _ ⟨h4, hlt⟩).trans h1, h2, h3.keep fun c hc => hs c ⟨(h5 c hc).1, h3.block c hc⟩, h6, ⟨h4, hlt⟩, fun c hc => ⟨⟨(h5 c hc).1, h3.block c hc⟩, (h5 c hc).2⟩⟩
end
set_option maxRecDepth 100000 in
set_option maxHeartbeats 2000000 in
theorem cc_used (b : Nat) (w : World) (h0 : w.cell? ⟨b, 0, none⟩ = some (.pointer (some ⟨b, 0, none⟩))) :
  Calls Try.prog 50 #[.pointer (some ⟨b, 0, none⟩)] w fun e w' => e = .returned (.tuple #[]) ∧ w' = w := by
 have hsz : (Try.prog.info? 74).map (·.size) = some 2 := by kernel_rfl
 obtain ⟨j, hj, _⟩ := Option.map_eq_some_iff.1 hsz
 go_enter Try.func50, Try.ntmps50
 go_wp2
 rw [Lib.run_neq_ptr_same w _ Try.underlying72 hj]
 go_wp2
 go_end0
 exact ⟨rfl, rfl⟩
set_option maxRecDepth 100000 in
set_option maxHeartbeats 2000000 in
theorem cc_fresh (b : Nat) (w : World) (h0 : w.cell? ⟨b, 0, none⟩ = some (.pointer none)) (hsh : w.shape? b = some (74, 2)) (hfz : w.frozen? ⟨b, 0, none⟩ = false) :
  Calls Try.prog 50 #[.pointer (some ⟨b, 0, none⟩)] w fun e w' => e = .returned (.tuple #[]) ∧ w' = w.setCell ⟨b, 0, none⟩ (.pointer (some ⟨b, 0, none⟩)) := by
 have hsz : (Try.prog.info? 74).map (·.size) = some 2 := by kernel_rfl
 have hlies : liesAt Try.prog Try.prog.depth 74 (2 / Try.prog.cellsOf 74) 0 74 1 = true := by kernel_rfl
 obtain ⟨j, hj, hjs⟩ := Option.map_eq_some_iff.1 hsz
 go_enter Try.func50, Try.ntmps50
 go_wp2
 rw [Lib.run_to_unsafe w ⟨b, 0, none⟩ Try.underlying72 Try.underlying97 hj (by rw [hjs]; decide) hsh (Nat.zero_lt_succ 1)]
 simp only [Result.andThen]
 rw [Oper.upon_value]
 go_wp2
 rw [run_callFunc_extern Try.func55 (by kernel_rfl) (by kernel_rfl) (by kernel_rfl) (e := Extern.AbiNoEscape.same) (by kernel_rfl)]
 rw [Lib.run_noEscape]
 simp only [Result.andThen]
 rw [Oper.upon_value]
 go_wp2
 rw [Lib.run_from_unsafe w ⟨b, 0, none⟩ Try.underlying97 Try.underlying72 hj hsh hlies]
 simp only [Result.andThen]
 rw [Oper.upon_value]
 go_wp2
 go_end0
 exact ⟨rfl, rfl⟩
theorem cc_any {w : World} {S : Nat → Prop} {b : Nat} {l : List UInt8} (h : BRep w S b l) :
  Calls Try.prog 50 #[.pointer (some ⟨b, 0, none⟩)] w fun e w' => e = .returned (.tuple #[]) ∧ (∃ v, w'.heap[b]? = some (.cells #[.pointer (some ⟨b, 0, none⟩), v] 74 (0, 0)) ∧ Fil w' v l ∧ S b ∧ ∀ c, bl v = some c → S c ∧ c ≠ b) ∧ Fr S w w' := by
 obtain ⟨p, v, h1, h2, h3, h6, h4, h5⟩ := h
 rcases h2 with rfl | rfl
 ·refine (cc_fresh b w (by rw [Lib.cell_of_heap h1]; rfl) (by simp [World.shape?, h1]) (Lib.frozen_of_heap h1 0)).mono ?_
  rintro e w' ⟨rfl, rfl⟩
  refine ⟨rfl, ⟨v, ?_, h3.keep fun c hc => Below.heap_setCell _ _ _ _ (h5 c hc).2, h4, h5⟩, Fr.setCell (p := ⟨b, 0, none⟩) h4 _⟩
  simp [World.setCell, Array.getElem?_modify, h1]
 ·refine (cc_used b w (by rw [Lib.cell_of_heap h1]; rfl)).mono ?_
  rintro e w' ⟨rfl, rfl⟩
  exact ⟨rfl, ⟨v, h1, h3, h4, h5⟩, Fr.refl _ _⟩
theorem list_ap_str {P : Program} {ops : Array Oper} {rest : List Oper} {o : Oper} {a : Act} {Q : Exit → Act → World → Prop} (w : World) (hgd : o.guard = none) (s x : Operand) (t u : TypeId)
  (ho : o.op = .call { callee := .builtin .append, args := #[s, x], argTypes := #[t, u] }) (ht : P.underlying t = some (.slice 5)) (hu : P.underlying u = some .string)
  (hE : ElemOk P t 5 1 1) (hz : ∀ i, P.info? 5 = some i → i.zero = some (.int .u8 0)) {v : Value} {l : List UInt8} (hf : Fil w v l) (hs : a.eval s = v) (str : ByteArray) (hx : a.eval x = .string str) (hb : l.length + str.size ≤ 140737488355328)
  (h : ∀ v' w', Fil w' v' (l ++ str.data.toList) → w.grownBy w' (bl v) → (bl v' = bl v ∨ bl v' = some w.heap.size) → wpList P ops Q rest (a.put o.dst v') w') : wpList P ops Q (o :: rest) a w :=
 wpList_plain hgd fun _ hK => by
  obtain ⟨v', w', hrun, h2, h3, h4⟩ := hf.append t u o.type ht hu hE hz str hb
  unfold Oper.wp execOp
  simp only [ho, resolve, invoke, builtin, Sem.run_bind, Sem.run_pure, Result.andThen_ok, List.map_toArray, List.map_cons, List.map_nil, hs, hx, hrun]
  exact hK _ _ (h v' w' h2 h3 h4)
set_option maxRecDepth 100000 in
set_option maxHeartbeats 2000000 in
theorem ws_any {w : World} {S : Nat → Prop} {b : Nat} {l : List UInt8} (h : BRep w S b l) (hS : ∀ c, w.heap.size ≤ c → S c) (s : ByteArray) (h0 : 0 < s.size) (hb : l.length + s.size ≤ 140737488355328) :
  Calls Try.prog 35 #[.pointer (some ⟨b, 0, none⟩), .string s] w fun e w' => e = .returned (.tuple #[.int .i64 s.size, .nilIface]) ∧ BRep w' S b (l ++ s.data.toList) ∧ Fr S w w' := by
 have HC := Veil.mk (cc_any h)
 clear h
 go_enter Try.func35, Try.ntmps35
 go_wp2_with (first | (go_at_call 50; refine HC.out.mono ?_))
 rintro e w1 ⟨rfl, ⟨v, hbk, hfil, hSb, hown⟩, hF⟩
 have c1 : w1.cell? ⟨b, 1, none⟩ = some v := by rw [Lib.cell_of_heap hbk]; rfl
 have hsl : (l ++ s.data.toList).length = l.length + s.size := by simp
 go_wp2_with (at_builtin; refine list_ap_str _ rfl _ _ _ _ rfl Try.underlying58 Try.underlying9 elem8 zero8 hfil rfl s rfl hb ?_)
 intro v' w2 hfil' hgrow hbl
 have hlt : b < w1.heap.size := (Array.getElem?_eq_some_iff.1 hbk).1
 have hnb : bl v ≠ some b := fun e => (hown b e).2 rfl
 have hb2 : w2.heap[b]? = some (.cells #[.pointer (some ⟨b, 0, none⟩), v] 74 (0, 0)) := (hgrow.block b hlt (fun e => hnb e.symm)).trans hbk
 have hown' : ∀ c, bl v' = some c → S c ∧ c ≠ b := fun c hc => by
  rcases hbl with e | e
  ·exact hown c (e ▸ hc)
  ·rw [e] at hc
   cases hc
   exact ⟨hS _ hF.size, by omega⟩
 have hF2 : Fr S w w2 := hF.trans (Fr.grown hgrow fun c hc => (hown c hc).1)
 obtain ⟨A', c', hv', hc'⟩ := hfil'.form
 have d1 : w2.cell? ⟨b, 1, none⟩ = some v := by rw [Lib.cell_of_heap hb2]; rfl
 have f1 : w2.frozen? ⟨b, 1, none⟩ = false := Lib.frozen_of_heap hb2 1
 subst hv'
 go_wp2
 go_ret2
 refine ⟨rfl, ⟨_, _, ?_, .inr rfl, hfil'.keep fun c hc => Below.heap_setCell _ _ _ _ (hown' c hc).2, fun e => (by rw [e] at hsl; simp at hsl; omega), hSb, hown'⟩, hF2.trans (Fr.setCell (p := ⟨b, 1, none⟩) hSb _)⟩
 simp [World.setCell, Array.getElem?_modify, hb2]
theorem Fr.freeze {S : Nat → Prop} {w : World} {p : Addr} (hp : S p.block) (n : Nat) : Fr S w (w.freeze p n) := by
 unfold World.freeze
 split
 ·exact Fr.refl S w
 ·exact ⟨rfl, rfl, rfl, by simp, fun k hk hS => by
   simp only [Array.getElem?_modify]
   rw [if_neg (fun e => hS (by rw [← e]; exact hp))]⟩
set_option maxRecDepth 100000 in
set_option maxHeartbeats 2000000 in
theorem bs_nil {S : Nat → Prop} (b : Nat) (p : Value) (w : World) (hbk : w.heap[b]? = some (.cells #[p, .slice none 0 0] 74 (0, 0))) :
  Calls Try.prog 37 #[.pointer (some ⟨b, 0, none⟩)] w fun e w' => e = .returned (.string ⟨#[]⟩) ∧ Fr S w w' := by
 have hUS : ∀ (W : World) (q : Option Addr), (Builtin.unsafeString_ #[90, 3] 9 #[.pointer q, .int .i64 0]).run Try.prog W = .ok (.string .empty) W := fun W q => Lib.run_unsafeString_none W _ _ _ q
 have c1 : w.drew.cell? ⟨b, 1, none⟩ = some (.slice none 0 0) := by
  have : w.drew.heap[b]? = some (.cells #[p, .slice none 0 0] 74 (0, 0)) := hbk
  rw [Lib.cell_of_heap this]; rfl
 have hSD : (Builtin.unsafeSliceData_ #[58] 90 #[.slice none 0 0]).run Try.prog w.drew = .ok (.pointer none) w.drew := rfl
 go_enter Try.func37, Try.ntmps37
 go_wp2
 go_region
 all_goals (go_wp2; go_ret; exact ⟨rfl, Fr.drewN w 1⟩)
set_option maxRecDepth 100000 in
set_option maxHeartbeats 2000000 in
theorem bs_any {w : World} {S : Nat → Prop} {b : Nat} {l : List UInt8} (h : BRep w S b l) (hl : l.length ≤ 140737488355328) :
  Calls Try.prog 37 #[.pointer (some ⟨b, 0, none⟩)] w fun e w' => e = .returned (.string ⟨l.toArray⟩) ∧ Fr S w w' := by
 obtain ⟨p, v, h1, h2, h3, h6, h4, h5⟩ := h
 by_cases h0 : l = []
 ·subst h0
  rw [h6 rfl] at h1
  exact bs_nil b p w h1
 have hl0 : l.length ≠ 0 := by simpa using h0
 rcases h3 with ⟨A, rfl, e⟩ | ⟨g, cap, rfl, hc, hown⟩
 ·exact absurd e h0
 have hgS := (h5 g (bl_lit _ _ _ hc)).1
 clear h5 h6
 rcases hown with ⟨h, _⟩ | ⟨g', n', cap', cur, fr, h, hb, hg, hfr, hnc, hcm, hcs, hl', htake⟩
 ·cases h
 simp only [Value.slice.injEq, Option.some.injEq, Addr.mk.injEq] at h
 obtain ⟨⟨rfl, _⟩, rfl, rfl⟩ := h
 have hg1 : w.drew.heap[g]? = some (.cells cur 5 fr) := hg
 have hcell : ∀ j x, l[j]? = some x → w.drew.cell? ((⟨g, 0, none⟩ : Addr).add j) = some (.int .u8 x.toNat) := by
  intro j x hx
  rw [Addr.add_lit]
  simp only [Nat.zero_add]
  rw [cell_of_row w.drew g j cur 5 fr hg1]
  have : (l.map w8)[j]? = some (w8 x) := by rw [List.getElem?_map, hx]; rfl
  rw [← htake, List.getElem?_take] at this
  split at this
  ·simpa [w8] using this
  ·cases this
 have c1 : w.drew.cell? ⟨b, 1, none⟩ = some (.slice (some ⟨g, 0, none⟩) l.length cap) := by
  have : w.drew.heap[b]? = some (.cells #[p, .slice (some ⟨g, 0, none⟩) l.length cap] 74 (0, 0)) := h1
  rw [Lib.cell_of_heap this]; rfl
 have hSD : (Builtin.unsafeSliceData_ #[58] 90 #[.slice (some ⟨g, 0, none⟩) l.length cap]).run Try.prog w.drew = .ok (.pointer (some ⟨g, 0, none⟩)) w.drew :=
  Lib.run_unsafeSliceData_row _ _ _ _ _ _ (by omega)
 have hUS : (Builtin.unsafeString_ #[90, 3] 9 #[.pointer (some ⟨g, 0, none⟩), .int .i64 l.length]).run Try.prog w.drew = .ok (.string ⟨l.toArray⟩) (w.drew.freeze ⟨g, 0, none⟩ l.length) := by
  refine Lib.run_unsafeString_row w.drew 90 3 9 5 Try.underlying90 (by kernel_rfl) g cur.size (by simp [World.shape?, hg1]) l h0 (by omega) (by omega) hcell
 have hgS' := Veil.mk hgS
 clear hcell hg1 hcs hl' htake hfr h4 h2 hgS hnc hb
 go_enter Try.func37, Try.ntmps37
 go_wp2
 go_region
 all_goals (go_wp2; go_ret; exact ⟨rfl, (Fr.drewN w 1).trans (Fr.freeze (p := ⟨g, 0, none⟩) hgS'.out _)⟩)
end Go.Proofs.Ytjicccjpooahoaa
