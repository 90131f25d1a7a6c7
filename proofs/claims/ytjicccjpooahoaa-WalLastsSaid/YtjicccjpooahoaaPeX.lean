/- Regions whose operations wait on one another through a chain of operations: the text's order serves for every order. Nothing of the program. -/
import Derived.Test.YtjicccjpooahoaaPeR
set_option linter.unusedSectionVars false
set_option linter.unusedVariables false
set_option linter.unusedSimpArgs false
namespace Go.Proofs.Ytjicccjpooahoaa.Pe
open Go Go.RowKit
variable [Tab]
def dep (md : Region.Mode) (ops : Array Oper) (k : Nat) : Nat → Nat → Bool
 | 0, j => j == k
 | n + 1, j => j == k || (match ops[j]? with
  | none => false
  | some oj => oj.after.any fun e => Region.binds md e && dep md ops k n e.on)
theorem dep_ready {md : Region.Mode} {ops : Array Oper} {k : Nat} {listed : Array Bool} (hinv : ∀ n j, dep md ops k n j = true → listed.getD j true = false) {j : Nat} (hj : j ∈ Region.ready md ops listed) (hne : j ≠ k) (n : Nat) : dep md ops k n j = false := by
 have h0 : (j == k) = false := by simpa using hne
 cases n with
 | zero => exact h0
 | succ n =>
  obtain ⟨_, oj, hoj, hall⟩ := mem_ready.1 hj
  cases hd : dep md ops k (n + 1) j with
  | false => rfl
  | true =>
   exfalso
   unfold dep at hd
   rw [h0, hoj, Bool.false_or] at hd
   simp only at hd
   rw [Array.any_eq_true'] at hd
   obtain ⟨e, he, h2⟩ := hd
   simp only [Bool.and_eq_true] at h2
   have h3 := hinv n e.on h2.2
   have h1 := hall e he h2.1
   rcases Nat.lt_or_ge e.on listed.size with h' | h'
   ·simp [h'] at h3 h1; rw [h3] at h1; cases h1
   ·simp [Array.getElem?_eq_none h'] at h1
def freeC2 (cls : Op → Cls) (md : Region.Mode) (ops : Array Oper) (listed : Array Bool) (k : Nat) : Bool :=
 match ops[k]? with
 | none => false
 | some ok => (List.range ops.size).all fun j =>
  match ops[j]? with
  | none => true
  | some oj => j == k || listed.getD j true || dep md ops k 8 j || indep cls ops ok oj
def lateC (md : Region.Mode) (ops : Array Oper) : Bool := (List.range ops.size).all fun j => match ops[j]? with
 | none => true
 | some oj => oj.after.all fun e => !Region.binds md e || decide (e.on < j)
theorem lateC_dep {md : Region.Mode} {ops : Array Oper} (h : lateC md ops = true) (k : Nat) : ∀ n j, dep md ops k n j = true → k ≤ j := by
 intro n
 induction n with
 | zero => intro j hj; unfold dep at hj; have := beq_iff_eq.1 hj; omega
 | succ n ih =>
  intro j hj
  unfold dep at hj
  rw [Bool.or_eq_true] at hj
  rcases hj with hj | hj
  ·have := beq_iff_eq.1 hj; omega
  ·cases ho : ops[j]? with
   | none => rw [ho] at hj; cases hj
   | some oj =>
    rw [ho] at hj
    simp only at hj
    rw [Array.any_eq_true'] at hj
    obtain ⟨e, he, h2⟩ := hj
    simp only [Bool.and_eq_true] at h2
    have h3 := ih e.on h2.2
    have hlt : j < ops.size := (Array.getElem?_eq_some_iff.1 ho).1
    have h4 := (List.all_eq_true.1 h) j (List.mem_range.2 hlt)
    rw [ho] at h4
    simp only at h4
    have h5 := (Array.all_eq_true_iff_forall_mem.1 h4) e he
    rw [h2.1] at h5
    have : e.on < j := by simpa using h5
    omega
def lexC2 (cls : Op → Cls) (md : Region.Mode) (ops : Array Oper) : Nat → Nat → Array Bool → Bool
 | 0, _, listed => (Region.ready md ops listed).isEmpty
 | fuel + 1, k, listed => (Region.ready md ops listed).contains k && freeC2 cls md ops listed k && lexC2 cls md ops fuel (k + 1) (listed.setIfInBounds k true)
def lexOk2 (cls : Op → Cls) (ops : Array Oper) : Bool := lateC .any ops && lexC2 cls .any ops ops.size 0 (Array.replicate ops.size false)
theorem freeC2_spec {cls : Op → Cls} {md : Region.Mode} {ops : Array Oper} {listed : Array Bool} {k : Nat} {ok : Oper} (hk : ops[k]? = some ok) (h : freeC2 cls md ops listed k = true) :
  ∀ (j : Nat) oj, ops[j]? = some oj → j ≠ k → listed.getD j true = false → (∀ n, dep md ops k n j = false) → indep cls ops ok oj = true := by
 intro j oj hj hne hun hno
 unfold freeC2 at h
 rw [hk] at h
 simp only at h
 have hlt : j < ops.size := (Array.getElem?_eq_some_iff.1 hj).1
 have h1 := (List.all_eq_true.1 h) j (List.mem_range.2 hlt)
 rw [hj] at h1
 simp only [Bool.or_eq_true, beq_iff_eq] at h1
 rcases h1 with ((h1 | h1) | h1) | h1
 ·exact absurd h1 hne
 ·rw [hun] at h1; cases h1
 ·rw [hno 8] at h1; cases h1
 ·exact h1
section
variable {P : Program} {N N0 : Nat} {w0 : World} {g0 : Gh} {pf rf : List FuncId}
theorem wpX_first2 {cls : Op → Cls} {md : Region.Mode} {ops : Array Oper} {Q : Env → Store → Prop} {i : Nat} {oi : Oper} {v : AV} (hi : ops[i]? = some oi) :
  ∀ (fuel : Nat) (listed : Array Bool) (e : Env) (S Si : Store),
   (∀ n j, dep md ops i n j = true → listed.getD j true = false) →
   (∀ (j : Nat) oj, ops[j]? = some oj → j ≠ i → listed.getD j true = false → (∀ n, dep md ops i n j = false) → indep cls ops oi oj = true) →
   i ∈ Region.ready md ops listed → YieldsX P cls ops oi e S v Si →
   wpX P cls md ops Q fuel (listed.setIfInBounds i true) (Pe.put e oi.dst v) Si → wpX P cls md ops Q (fuel + 1) listed e S := by
 intro fuel
 induction fuel with
 | zero =>
  intro listed e S Si _ _ hr hy H
  refine ⟨fun h => (by rw [h] at hr; cases hr), fun j hj => ?_⟩
  by_cases hji : j = i
  ·subst hji; exact hy.xOp hi H
  ·have := ready_mono hj hji
   rw [H.1] at this
   cases this
 | succ fuel ih =>
  intro listed e S Si hinv hfree hr hy H
  refine ⟨fun h => (by rw [h] at hr; cases hr), fun j hj => ?_⟩
  by_cases hji : j = i
  ·subst hji; exact hy.xOp hi H
  ·have h1 := H.2 j (ready_mono hj hji)
   have hnd := dep_ready hinv hj hji
   obtain ⟨hjun, oj, hoj, hall⟩ := mem_ready.1 hj
   have h2 := xOp_swap hoj (hfree j oj hoj hji hjun hnd) hy h1
   have hinv' : ∀ n k, dep md ops i n k = true → (listed.setIfInBounds j true).getD k true = false := fun n k hk => by
    have hjk : j ≠ k := fun e => by rw [← e, hnd n] at hk; cases hk
    rw [getD_set_ne true hjk]
    exact hinv n k hk
   have hfree' : ∀ (k : Nat) ok, ops[k]? = some ok → k ≠ i → (listed.setIfInBounds j true).getD k true = false →
     (∀ n, dep md ops i n k = false) → indep cls ops oi ok = true := fun k ok hk hki hun hno => by
    refine hfree k ok hk hki ?_ hno
    by_cases hjk : j = k
    ·subst hjk; exact hjun
    ·rw [getD_set_ne true hjk] at hun; exact hun
   refine xOp_mono (fun e' S' h3 => ?_) h2
   obtain ⟨Si', h3, h4⟩ := h3
   refine ih (listed.setIfInBounds j true) e' S' Si' hinv' hfree' (ready_mono hr (Ne.symm hji)) h3 ?_
   rw [Array.setIfInBounds_comm _ _ hji]
   exact h4
theorem wpX_lex2 {cls : Op → Cls} {md : Region.Mode} {ops : Array Oper} {Q : Env → Store → Prop} (hlate : lateC md ops = true) : ∀ (l : List Oper) (k : Nat) (listed : Array Bool) (e : Env) (S : Store), (∀ j, l[j]? = ops[k + j]?) →
  (∀ j, k ≤ j → j < ops.size → listed.getD j true = false) → listed.size = ops.size →
  lexC2 cls md ops l.length k listed = true → wpL P cls ops Q l e S → wpX P cls md ops Q l.length listed e S
 | [], _, _, _, _, _, _, _, hB, h => ⟨by simpa [lexC2] using hB, h⟩
 | o :: l, k, listed, e, S, hl, hun, hsz, hB, h => by
  have h0 : ops[k]? = some o := by simpa using (hl 0).symm
  simp only [List.length_cons, lexC2, Bool.and_eq_true] at hB
  obtain ⟨⟨hr, hf⟩, hB'⟩ := hB
  have hst : xOp P cls ops k (wpL P cls ops Q l) e S := by unfold xOp; simp only [h0]; exact h
  obtain ⟨v, S', hy, hK⟩ := yieldsX_of_xOp h0 hst
  have hks : k < ops.size := (Array.getElem?_eq_some_iff.1 h0).1
  refine wpX_first2 h0 l.length listed e S S' (fun n j hj => ?_) (freeC2_spec h0 hf) (by simpa using hr) hy
   (wpX_lex2 hlate l (k + 1) _ _ _ (fun j => by have := hl (j + 1); simpa [Nat.add_assoc, Nat.add_comm 1 j] using this) (fun j h1 h2 => ?_) (by simpa using hsz) hB' hK)
  ·refine hun j (lateC_dep hlate k n j hj) ?_
   cases n with
   | zero => unfold dep at hj; have := beq_iff_eq.1 hj; omega
   | succ n =>
    unfold dep at hj
    rw [Bool.or_eq_true] at hj
    rcases hj with hj | hj
    ·have := beq_iff_eq.1 hj; omega
    ·cases ho : ops[j]? with
     | none => rw [ho] at hj; cases hj
     | some oj => exact (Array.getElem?_eq_some_iff.1 ho).1
  ·rw [getD_set_ne true (by omega)]
   exact hun j (by omega) h2
theorem region_draws2 {ro : Option Nat} {cls : Op → Cls} {ops : Array Oper} {id : Nat} {Q : Env → Store → Prop} {Q' : Exit → Act → World → Prop} {e : Env} {S : Store} {a : Act} {w : World} (hm : P.follows .mixedOrders = true) (hB : lexOk2 cls ops = true) (hds : dstsOk N ops = true)
  (hQ : ∀ e S a w, Conc N w0 g0 e S a w → Q e S → Q' .normal a w) (hc : Conc N w0 g0 e S a w) (h : wpL P cls ops Q ops.toList e S) : (Code.region id ops true).wpIn (wR ro) 0 P Q' a w := by
 refine wpIn_region_any hm (wpAny_of_x ro (cls := cls) hds hQ _ _ e S a _ (hc.draw _) ?_)
 simp only [lexOk2, Bool.and_eq_true] at hB
 have := wpX_lex2 (md := .any) hB.1 ops.toList 0 (Array.replicate ops.size false) e S (by simp) (fun j _ hj => by simp [hj]) (by simp) (by simpa using hB.2) h
 simpa using this
end
def codeOk2 (P : Program) (pf rf : List FuncId) (N : Nat) : Code → Bool
 | .region _ ops draw => dstsOk N ops && (!draw || lexOk2 (clsOf P pf rf) ops)
 | .seq a b => codeOk2 P pf rf N a && codeOk2 P pf rf N b
 | .cond _ a b => codeOk2 P pf rf N a && codeOk2 P pf rf N b
 | .block _ b => codeOk2 P pf rf N b
 | .loop b => codeOk2 P pf rf N b
 | _ => true
section
variable {P : Program} {N N0 : Nat} {w0 : World} {g0 : Gh} {pf rf : List FuncId}
theorem AW_ok2 {ro : Option Nat} (hm : P.follows .mixedOrders = true) (hN0 : g0.nid = N0) : ∀ (c : Code) (Q : AX → Env → Store → Prop) (e : Env) (S : Store) (a : Act) (w : World), codeOk2 P pf rf N c = true → Conc N w0 g0 e S a w → AW P pf rf N0 (eraseC c) Q e S → c.wpIn (wR ro) 0 P (toQ N w0 g0 Q) a w := by
 intro c
 induction c with
 | skip => intro Q e S a w _ hc h; exact wpIn_skip ⟨e, S, hc, h⟩
 | label l => intro Q e S a w _ hc h; exact wpIn_label ⟨e, S, hc, h⟩
 | ret => intro Q e S a w _ hc h; exact wpIn_ret ⟨e, S, hc, h⟩
 | exit id => intro Q e S a w _ hc h; exact wpIn_exit ⟨e, S, hc, h⟩
 | region id ops draw =>
  intro Q e S a w hok hc h
  simp only [codeOk2, Bool.and_eq_true] at hok
  simp only [eraseC, eraseG, AW] at h
  have hL := wpL_of_ARg ops.toList e S h
  have hQ : ∀ e S a w, Conc N w0 g0 e S a w → Q .norm e S → toQ N w0 g0 Q .normal a w := fun e S a w hc hq => ⟨e, S, hc, hq⟩
  cases draw with
  | false => exact region_list hok.1 hQ hc hL ro
  | true => exact region_draws2 hm (by simpa using hok.2) hok.1 hQ hc hL
 | seq x y ihx ihy =>
  intro Q e S a w hok hc h
  simp only [codeOk2, Bool.and_eq_true] at hok
  simp only [eraseC, eraseG, AW] at h
  refine wpIn_seq (Go.wpIn_mono (ihx _ e S a w hok.1 hc h) ?_)
  intro ex a' w' hq
  cases ex with
  | normal => obtain ⟨e', S', hc', h'⟩ := hq; exact ihy Q e' S' a' w' hok.2 hc' h'
  | exit id => exact hq
  | ret => exact hq
  | _ => exact hq.elim
 | cond c x y ihx ihy =>
  intro Q e S a w hok hc h
  simp only [codeOk2, Bool.and_eq_true] at hok
  simp only [eraseC, eraseG, AW] at h
  split at h
  ·rename_i b hb
   have hcb : a.eval c = .bool b := by
    obtain ⟨_, _, g, _, h4, _⟩ := hc
    have := ev_ok h4 c
    rw [hb] at this
    cases hv : a.eval c <;> rw [hv] at this <;> cases this
    rfl
   refine wpIn_cond_split hcb (fun ht => ihx Q e S a w hok.1 hc (h.1 ht)) (fun hf => ihy Q e S a w hok.2 hc (h.2 hf))
  ·exact h.elim
 | block id c ih =>
  intro Q e S a w hok hc h
  simp only [eraseC, eraseG, AW] at h
  refine wpIn_block (Go.wpIn_mono (ih _ e S a w hok hc h) ?_)
  intro ex a' w' hq
  cases ex with
  | normal => exact hq
  | exit i =>
   obtain ⟨e', S', hc', h'⟩ := hq
   simp only [blockQ] at h'
   simp only [Exit.inBlock]
   by_cases hi : i = id
   ·rw [if_pos hi] at h' ⊢; exact ⟨e', S', hc', h'⟩
   ·rw [if_neg hi] at h' ⊢; exact ⟨e', S', hc', h'⟩
  | ret => exact hq
  | _ => exact hq.elim
 | loop c ih =>
  intro Q e S a w hok hc h
  simp only [eraseC, eraseG, AW] at h
  obtain ⟨I, ⟨n, e', S', hwk, hI⟩, hround⟩ := h
  refine wpIn_loop_ghost (fun n a w => ∃ e S, Conc N w0 g0 e S a w ∧ I n e S) n ⟨e', S', hwk N w0 g0 a w hN0 hc, hI⟩ ?_
  rintro n a w ⟨e, S, hc, hI⟩
  refine Go.wpIn_mono (ih _ e S a w hok hc (hround n e S hI)) ?_
  intro ex a' w' hq
  cases ex with
  | normal =>
   obtain ⟨e1, S1, hc1, n', e2, S2, hlt, hwk', hI'⟩ := hq
   exact ⟨n', hlt, e2, S2, hwk' N w0 g0 a' w' hN0 hc1, hI'⟩
  | exit i => exact hq
  | ret => exact hq
  | _ => exact hq.elim
 | _ => intro Q e S a w _ _ h; exact h.elim
end
section
variable {P : Program}
theorem AC.enter2 {f : FuncId} {fn : Func} {c : Code} {args : List AV} {S S' : Store} {v : AV} (pf rf : List FuncId) (hf : P.funcs[f]? = some fn) (hb : fn.body = some c) (hname : fn.name ≠ "runtime.NumGoroutine") (hm : P.follows .mixedOrders = true)
  (hn : args.length ≤ fn.ntmps) (hok : codeOk2 P pf rf fn.ntmps c = true) (h : AW P pf rf S.length (eraseC c) (finQ P fn.results.toList S.length v S') (argEnv args) S) : AC P f args S v S' := by
 exact AC.of_wp hf hb hname hn fun w g a hg hc => AW_ok2 hm hg c _ (argEnv args) S a w hok hc h
end
end Go.Proofs.Ytjicccjpooahoaa.Pe
