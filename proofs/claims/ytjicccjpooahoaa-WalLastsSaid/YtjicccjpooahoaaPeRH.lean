/- A round of a range over a function whose body draws its order. Nothing of the program. -/
import Derived.Test.YtjicccjpooahoaaPeUW
import Derived.Test.YtjicccjpooahoaaPeRG
set_option linter.unusedSectionVars false
set_option linter.unusedVariables false
set_option linter.unusedSimpArgs false
namespace Go.Proofs.Ytjicccjpooahoaa.Pe
open Go Go.RowKit
variable [Tab] {P : Program}
theorem AYB.enter4 {b D : Nat} {fn : FuncId} {es args : List AV} {ps : Array Tmp} {asn bdy : Code} {S S' : Store} (pf rf : List FuncId) (sp : List (Nat × (List Nat × List Nat × List Nat))) (ord : List (Nat × List Nat)) (l : Nat) (hl : S[l]? = some (.loop b D fn es ps asn bdy .ready)) (hlen : args.length = ps.size) (hps : ∀ p ∈ ps.toList, p < es.length)
  (hm : P.follows .mixedOrders = true) (hoa : codeOk P pf rf es.length asn = true) (hob : codeOk4 P pf rf es.length sp ord bdy = true) (hra : noRF asn = true)
  (h : AW P pf rf S.length (eraseC asn) (asnQ l (.loop b D fn es ps asn bdy) (AX4 P pf rf S.length (eraseC4 sp ord bdy) (bdyQ S.length l (.loop b D fn es ps asn bdy) S'))) (putE (argEnv es) ps.toList args) S) : AYB P b args S (.bo true) S' :=
 AYB.of_wp pf rf l hl hlen hps hm hoa hra _ (fun w0 g0 e T a w hn hc hb => AW_ok4 hm hn _ _ _ _ _ _ hob hc hb) h
theorem Weak.reserveN [Tab] (N0 : Nat) {e : Env} {S : Store} (l i : Nat) {cs es : List AV} (hS : S[l]? = some (.cells cs)) (hi : cs[i]? = some (.sl .full es)) (ty : TypeId) (sz : Nat) : Weak N0 e S e (S.set l (.cells (cs.set i (.sl (.own S.length) es))) ++ [.buf es.length ty sz]) := by
 rintro N w0 g0 a w hn ⟨h1, h2, g, h3, h4, h5⟩
 obtain ⟨g', h6, h7, h8, h9, h10⟩ := h3.reserve es.length ty sz
 have hlS := (List.getElem?_eq_some_iff.1 hS).1
 have hic := (List.getElem?_eq_some_iff.1 hi).1
 have hn3 := h3.nid
 have hn6 := h6.nid
 rw [List.length_append, List.length_singleton] at hn6
 refine ⟨h1, h2, g', ⟨by rw [List.length_append, List.length_set, List.length_singleton]; exact hn6, fun k o hk => ?_, h6.disj, h6.lt, h6.tab⟩, fun t => (h4 t).le h7.toLe, h5.trans h7⟩
 by_cases hkl : k = l
 ·subst hkl
  rw [List.getElem?_append_left (by rw [List.length_set]; exact hlS), List.getElem?_set_self hlS] at hk
  cases hk
  obtain ⟨k1, k2, k3, arr, T, fr, k4, k5, k6, k7, k8⟩ := h6.obj k (.cells cs) (get_app hS _)
  refine ⟨k1, k2, k3, arr, T, fr, k4, k5, by rw [List.length_set]; exact k6, k7, fun j u v hu hv => ?_⟩
  by_cases hj : j = i
  ·subst hj
   rw [List.getElem?_set_self hic] at hu
   cases hu
   refine (k8 j _ v hi hv).own_full (by omega) ?_ ?_
   ·rw [← hn3]; exact h9
   ·rw [← hn3]; exact h10
  ·rw [List.getElem?_set_ne (Ne.symm hj)] at hu
   exact k8 j u v hu hv
 ·refine h6.obj k o ?_
  by_cases hkS : k < S.length
  ·rw [List.getElem?_append_left (by rw [List.length_set]; exact hkS), List.getElem?_set_ne (Ne.symm hkl)] at hk
   rw [List.getElem?_append_left hkS]
   exact hk
  ·rw [List.getElem?_append_right (by rw [List.length_set]; omega), List.length_set] at hk
   rw [List.getElem?_append_right (by omega)]
   exact hk
def Keep (E e : Env) : Prop := ∀ t, E t = e t ∨ E t = .junk
theorem Keep.nil (e : Env) : Keep (fun _ => .junk) e := fun _ => .inr rfl
theorem Keep.cons {E e : Env} (h : Keep E e) (t : Nat) (v : AV) (hv : e t = v) : Keep (upd E t v) e := fun u => by
 unfold upd
 by_cases hu : u = t
 ·rw [if_pos hu, hu]; exact .inl hv.symm
 ·rw [if_neg hu]; exact h u
theorem Weak.keep (N0 : Nat) {E e : Env} {S : Store} (h : Keep E e) : Weak N0 e S E S := by
 rintro N w0 g0 a w hn ⟨h1, h2, g, h3, h4, h5⟩
 refine ⟨h1, h2, g, h3, fun t => ?_, h5⟩
 rcases h t with e1 | e1 <;> rw [e1]
 ·exact h4 t
 ·exact .junk _ _
theorem Weak.trans2 {N0 : Nat} {e e1 e2 : Env} {S S1 S2 : Store} (h : Weak N0 e S e1 S1) (h' : Weak N0 e1 S1 e2 S2) : Weak N0 e S e2 S2 := fun N w0 g0 a w hn hc => h' N w0 g0 a w hn (h N w0 g0 a w hn hc)
theorem ARF_mk {N : Nat} {g : Operand} {ps : Array Tmp} {asn bdy : Code} {K : Env → Store → Prop} {e : Env} {S : Store} {f : FuncId} {fa ca : List AV} (hg : ev e g = .fn (.func f) fa ca) (v : AV) (S' U : Store) (hl : S'.length = S.length)
  (hac : ∀ b D fn, AC P f (fa ++ [.fn (.yield b) [] []] ++ ca) (S ++ [.loop b D fn (envL N e) ps asn bdy .ready]) v (S' ++ .loop b D fn (envL N e) ps asn bdy .ready :: U)) (hK : K e (S' ++ .dead :: U)) : ARF P N g ps asn bdy K e S := by
 unfold ARF
 rw [hg]
 exact ⟨v, S', U, hl, hac, hK⟩
end Go.Proofs.Ytjicccjpooahoaa.Pe
