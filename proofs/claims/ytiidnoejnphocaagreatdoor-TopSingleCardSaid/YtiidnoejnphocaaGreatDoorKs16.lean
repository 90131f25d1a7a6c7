import Derived.Test.YtiidnoejnphocaaGreatDoorKs10
set_option linter.unusedSectionVars false
set_option linter.unusedVariables false
set_option linter.unusedSimpArgs false
namespace Go.Proofs.YtiidnoejnphocaaGreatDoor
section
namespace Pe
open Go Go.RowKit
variable [Tab]
def IW (md : Region.Mode) (ops : Array Oper) (listed : Array Bool) : Prop :=
 ∀ (j : Nat) oj, ops[j]? = some oj → listed.getD j true = true → ∀ e ∈ oj.after, Region.binds md e = true → listed.getD e.on true = true
theorem UG {md : Region.Mode} {ops : Array Oper} {k : Nat} {listed : Array Bool} (hc : IW md ops listed) (hk : listed.getD k true = false) : ∀ n j, B5 md ops k n j = true → listed.getD j true = false := by
 intro n;induction n with
 | zero => intro j hj; unfold B5 at hj; rw [beq_iff_eq.1 hj]; exact hk
 | succ n ih =>
  intro j hj;unfold B5 at hj;rw [Bool.or_eq_true] at hj;rcases hj with hj | hj
  ·rw [beq_iff_eq.1 hj]; exact hk
  ·cases ho : ops[j]? with
   | none => rw [ho] at hj; cases hj
   | some oj =>
    rw [ho] at hj;simp only at hj
    rw [Array.any_eq_true'] at hj;obtain ⟨e, he, h2⟩ := hj;simp only [Bool.and_eq_true] at h2;have h3 := ih e.on h2.2;cases hl : listed.getD j true with
    | false => rfl
    | true =>
     have := hc j oj ho hl e he h2.1;rw [h3] at this;cases this
theorem UZ {md : Region.Mode} {ops : Array Oper} {listed : Array Bool} {k : Nat} (hc : IW md ops listed) (hk : k ∈ Region.ready md ops listed) : IW md ops (listed.setIfInBounds k true) := by
 intro j oj hj hl e he hb;obtain ⟨_, ok, hok, hall⟩ := mem_ready.1 hk;have hmono : ∀ i, listed.getD i true = true → (listed.setIfInBounds k true).getD i true = true := fun i hi => by
  by_cases hik : k = i
  ·subst hik
   rw [Array.getD_eq_getD_getElem?, Array.getElem?_setIfInBounds]
   simp only [if_true];split <;> rfl
  ·rw [getD_set_ne true hik]; exact hi
 refine hmono _ ?_
 by_cases hjk : k = j
 ·subst hjk
  rw [hok] at hj;cases hj
  have h1 := hall e he hb;rcases Nat.lt_or_ge e.on listed.size with h' | h'
  ·simp [h'] at h1 ⊢; exact h1
  ·simp [Array.getElem?_eq_none h'] at h1
 ·rw [getD_set_ne true hjk] at hl
  exact hc j oj hj hl e he hb
def K8 (cls : Op → Cls) (md : Region.Mode) (ops : Array Oper) : List Nat → Array Bool → Bool
 | [], listed => (Region.ready md ops listed).isEmpty
 | k :: r, listed => (Region.ready md ops listed).contains k && M3 cls md ops listed k && K8 cls md ops r (listed.setIfInBounds k true)
def OZ (cls : Op → Cls) (ops : Array Oper) (ord : List Nat) : Bool := ord.length == ops.size && K8 cls .any ops ord (Array.replicate ops.size false)
section
variable {P : Program} {N N0 : Nat} {w0 : World} {g0 : Gh} {pf rf : List FuncId}
theorem QC {cls : Op → Cls} {md : Region.Mode} {ops : Array Oper} {Q : Af → Ae → Prop} : ∀ (l : List Nat) (listed : Array Bool) (e : Af) (S : Ae), IW md ops listed →
  K8 cls md ops l listed = true → CG P cls ops Q (l.filterMap fun i => ops[i]?) e S → Di P cls md ops Q l.length listed e S
 | [], _, _, _, _, hB, h => ⟨by simpa [K8] using hB, h⟩
 | k :: l, listed, e, S, hc, hB, h => by
  simp only [K8, Bool.and_eq_true] at hB;obtain ⟨⟨hr, hf⟩, hB'⟩ := hB;have hr : k ∈ Region.ready md ops listed := by simpa using hr
  obtain ⟨hun, o, h0, _⟩ := mem_ready.1 hr;rw [List.filterMap_cons, h0] at h;have hst : xOp P cls ops k (CG P cls ops Q (l.filterMap fun i => ops[i]?)) e S := by unfold xOp; simp only [h0]; exact h
  obtain ⟨v, S', hy, hK⟩ := NO h0 hst;exact QF h0 l.length listed e S S' (UG hc hun) (TD h0 hf) hr hy (QC l _ _ _ (UZ hc hr) hB' hK)
theorem ZG {ro : Option Nat} {cls : Op → Cls} {ops : Array Oper} {ord : List Nat} {id : Nat} {Q : Af → Ae → Prop} {Q' : Exit → Act → World → Prop} {e : Af} {S : Ae} {a : Act} {w : World} (hm : P.follows .mixedOrders = true) (hB : OZ cls ops ord = true) (hds : Db N ops = true)
  (hQ : ∀ e S a w, AJ N w0 g0 e S a w → Q e S → Q' .normal a w) (hc : AJ N w0 g0 e S a w) (h : CG P cls ops Q (ord.filterMap fun i => ops[i]?) e S) : (Code.region id ops true).wpIn (wR ro) 0 P Q' a w := by
 refine wpIn_region_any hm (GI ro (cls := cls) hds hQ _ _ e S a _ (hc.draw _) ?_)
 simp only [OZ, Bool.and_eq_true, beq_iff_eq] at hB;have h0 : IW .any ops (Array.replicate ops.size false) := fun j oj hj hl => by
  have hlt : j < ops.size := (Array.getElem?_eq_some_iff.1 hj).1
  simp [hlt] at hl
 have := QC (md := .any) ord (Array.replicate ops.size false) e S h0 hB.2 h;rw [hB.1] at this;exact this
end
def Ed (P : Program) (pf rf : List FuncId) (N : Nat) (ord : List (Nat × List Nat)) : Code → Bool
 | .region id ops draw => Db N ops && (match ord.lookup id with
  | none => !draw || MQ (AT P pf rf) ops
  | some l => draw && OZ (AT P pf rf) ops l)
 | .seq a b => Ed P pf rf N ord a && Ed P pf rf N ord b
 | .cond _ a b => Ed P pf rf N ord a && Ed P pf rf N ord b
 | .block _ b => Ed P pf rf N ord b
 | .loop b => Ed P pf rf N ord b
 | _ => true
def DR (ord : List (Nat × List Nat)) : Code → CC
 | .skip => .skip
 | .label _ => .skip
 | .region id ops _ => (match ord.lookup id with
  | none => .reg (ops.toList.map (C9 ops))
  | some l => .reg ((l.filterMap fun i => ops[i]?).map (C9 ops)))
 | .seq a b => .seq (DR ord a) (DR ord b)
 | .cond c a b => .cond c (DR ord a) (DR ord b)
 | .block id b => .block id (DR ord b)
 | .loop b => .loop (DR ord b)
 | .exit id => .exit id
 | .ret => .ret
 | _ => .bad
section
variable {P : Program} {N N0 : Nat} {w0 : World} {g0 : Gh} {pf rf : List FuncId} {ord : List (Nat × List Nat)}
theorem Wr {ro : Option Nat} (hm : P.follows .mixedOrders = true) (hN0 : g0.nid = N0) : ∀ (c : Code) (Q : AX → Af → Ae → Prop) (e : Af) (S : Ae) (a : Act) (w : World), Ed P pf rf N ord c = true → AJ N w0 g0 e S a w → AW P pf rf N0 (DR ord c) Q e S → c.wpIn (wR ro) 0 P (ED N w0 g0 Q) a w := by
 intro c;induction c with
 | skip => intro Q e S a w _ hc h; exact wpIn_skip ⟨e, S, hc, h⟩
 | label l => intro Q e S a w _ hc h; exact wpIn_label ⟨e, S, hc, h⟩
 | ret => intro Q e S a w _ hc h; exact wpIn_ret ⟨e, S, hc, h⟩
 | exit id => intro Q e S a w _ hc h; exact wpIn_exit ⟨e, S, hc, h⟩
 | region id ops draw =>
  intro Q e S a w hok hc h;have hQ : ∀ e S a w, AJ N w0 g0 e S a w → Q .norm e S → ED N w0 g0 Q .normal a w := fun e S a w hc hq => ⟨e, S, hc, hq⟩
  simp only [Ed, Bool.and_eq_true] at hok;simp only [DR] at h;cases ho : ord.lookup id with
  | none =>
   rw [ho] at hok h;simp only at hok h
   rw [AW] at h;have hL := EU ops.toList e S h;cases draw with
   | false => exact Mu hok.1 hQ hc hL ro
   | true => exact RC hm (by simpa using hok.2) hok.1 hQ hc hL
  | some l =>
   rw [ho] at hok h;simp only at hok h
   rw [AW] at h;have hL := EU _ e S h;cases draw with
   | false => simp at hok
   | true => exact ZG hm (by simpa using hok.2) hok.1 hQ hc hL
 | seq x y ihx ihy =>
  intro Q e S a w hok hc h;simp only [Ed, Bool.and_eq_true] at hok;simp only [DR, AW] at h;refine wpIn_seq (Go.wpIn_mono (ihx _ e S a w hok.1 hc h) ?_)
  intro ex a' w' hq;cases ex with
  | normal => obtain ⟨e', S', hc', h'⟩ := hq; exact ihy Q e' S' a' w' hok.2 hc' h'
  | exit id => exact hq
  | ret => exact hq
  | _ => exact hq.elim
 | cond c x y ihx ihy =>
  intro Q e S a w hok hc h;simp only [Ed, Bool.and_eq_true] at hok;simp only [DR, AW] at h;split at h
  ·rename_i b hb
   have hcb : a.eval c = .bool b := by
    obtain ⟨_, _, g, _, h4, _⟩ := hc;have := JC h4 c;rw [hb] at this;cases hv : a.eval c <;> rw [hv] at this <;> cases this
    rfl
   refine wpIn_cond_split hcb (fun ht => ihx Q e S a w hok.1 hc (h.1 ht)) (fun hf => ihy Q e S a w hok.2 hc (h.2 hf))
  ·exact h.elim
 | block id c ih =>
  intro Q e S a w hok hc h;simp only [DR, AW] at h;refine wpIn_block (Go.wpIn_mono (ih _ e S a w hok hc h) ?_)
  intro ex a' w' hq;cases ex with
  | normal => exact hq
  | exit i =>
   obtain ⟨e', S', hc', h'⟩ := hq;simp only [Ee] at h';simp only [Exit.inBlock];by_cases hi : i = id
   ·rw [if_pos hi] at h' ⊢; exact ⟨e', S', hc', h'⟩
   ·rw [if_neg hi] at h' ⊢; exact ⟨e', S', hc', h'⟩
  | ret => exact hq
  | _ => exact hq.elim
 | loop c ih =>
  intro Q e S a w hok hc h;simp only [DR, AW] at h;obtain ⟨I, ⟨n, e', S', hwk, hI⟩, hround⟩ := h;refine JU (fun n a w => ∃ e S, AJ N w0 g0 e S a w ∧ I n e S) n ⟨e', S', hwk N w0 g0 a w hN0 hc, hI⟩ ?_
  rintro n a w ⟨e, S, hc, hI⟩
  refine Go.wpIn_mono (ih _ e S a w hok hc (hround n e S hI)) ?_
  intro ex a' w' hq;cases ex with
  | normal =>
   obtain ⟨e1, S1, hc1, n', e2, S2, hlt, hwk', hI'⟩ := hq;exact ⟨n', hlt, e2, S2, hwk' N w0 g0 a' w' hN0 hc1, hI'⟩
  | exit i => exact hq
  | ret => exact hq
  | _ => exact hq.elim
 | _ => intro Q e S a w _ _ h; exact h.elim
end
end Pe
namespace Pe
open Go Go.RowKit
variable [Tab]
def NF (P : Program) (t : TypeId) (S : Ae) (n : Nat) (qs : List (Nat × AV)) : Option (AV × SObj) :=
 match Bk P t with
 | some (el, sz, _) => if qs.map (·.1) = List.range' 0 n ∧ (qs.all fun q => q.2.solid && q.2.cells.length == sz) = true ∧ n * sz ≤ 16777216 ∧ 0 < sz ∧ (Bj P el).isSome = true then some (.wr S.length n none, .row (Ak (qs.map (·.2))) el sz) else none
 | none => none
theorem Zc9 {P : Program} {o : Oper} {e : Af} {S : Ae} {v : AV} {z : SObj} {t : TypeId} {n : Nat} {parts : Array (Nat × Operand)} (ho : o.op = .buildSlice t n parts)
  (h : NF P t S n (parts.toList.map fun p => (p.1, ev e p.2)) = some (v, z)) : AE P o e S v (S ++ [z]) :=
 Cp fun ρ w g hw hr => by
  unfold NF at h;split at h
  ·rename_i el sz ag hs
   split at h
   ·rename_i hcond
    obtain ⟨hq, hall, hn, hsz, hzs⟩ := hcond;cases h
    obtain ⟨hu, hse⟩ := DZ hs;obtain ⟨z, hzz⟩ := Option.isSome_iff_exists.1 hzs;obtain ⟨iz, zv, hz1, hz2, hz3, _⟩ := IY hzz;have hqs : ∀ q ∈ parts.toList.map (fun p => (p.1, ev e p.2)), q.2.solid = true ∧ q.2.cells.length = sz := fun q hq => by
     have := (List.all_eq_true.1 hall) q hq;simpa using this
    generalize hzero : (if n * sz = 0 then (#[] : Array Value) else zv.cells) = zero at *
    have hzc : ∀ k : Nat, Value.oneCell' (zero[k]!) = true := by
     intro k;rw [getElem!_def];split
     ·rename_i x hx
      rw [← hzero] at hx;split at hx
      ·simp at hx
      ·exact hz3 x (List.mem_iff_getElem?.2 ⟨k, by simpa using hx⟩)
     ·rfl
    have hc0 : AB w g (List.replicate (n * sz) .junk) ((Array.range (n * sz)).map (zero[· % zero.size]!)) := by
     refine ⟨by simp, fun v hv => ?_, fun j u v hu hv => ?_⟩
     ·simp only [Array.toList_map, List.mem_map] at hv
      obtain ⟨k, _, rfl⟩ := hv;exact hzc _
     ·rw [List.getElem?_replicate] at hu
      split at hu
      ·cases hu; exact .junk _ _
      ·cases hu
    have hlen : (parts.toList.map (fun p => (p.1, ev e p.2))).length = n := by
     have := congrArg List.length hq;simpa using this
    have hfill := P8 ((List.range n).map fun k => (k * sz, sz)) sz (parts.toList.map fun p => (p.1, ev e p.2)) 0 [] (by simp) (by rw [hlen]; exact hq) hqs (fun i _ hi => by
     rw [hlen] at hi;rw [List.getElem?_map, List.getElem?_range (by omega)]
     rfl)
    rw [hlen] at hfill;simp only [List.nil_append] at hfill;obtain ⟨arr, h1, h2⟩ := LG (w := w) (g := g) ((List.range n).map fun k => (k * sz, sz)) (fun k => some (k * sz, sz)) (fun i p hp => by
     rw [List.getElem?_map] at hp
     obtain ⟨a, ha, rfl⟩ := Option.map_eq_some_iff.1 hp;obtain ⟨hlt, he⟩ := List.getElem?_eq_some_iff.1 ha
     simp at he
     rw [he]) parts.toList e ρ _ _ _ hc0 (fun p hp => hr p.2 (by rw [ho]; simp only [Op.operands]; exact List.mem_map.2 ⟨p, hp, rfl⟩)) hfill
    have hfl : (Ak ((parts.toList.map fun p => (p.1, ev e p.2)).map (·.2))).length = n * sz := by
     rw [E8 (sz := sz) fun x hx => by
      obtain ⟨q, hq, rfl⟩ := List.mem_map.1 hx;exact (hqs q hq).2, List.length_map, hlen]
    have hmx : n ≤ maxLen := by
     have : n ≤ n * sz := Nat.le_mul_of_pos_right _ hsz;unfold maxLen; omega
    have has : arr.size = n * sz := by rw [h2.1, hfl]
    obtain ⟨g', h5, h6, h7⟩ := hw.new_row (n := n) (cs := Ak ((parts.toList.map fun p => (p.1, ev e p.2)).map (·.2))) (cur := arr) (e := el) (sz := sz) (cap := n) (fr := (0, 0)) hsz hfl (Nat.le_refl _) hmx has (Nat.le_refl _) arr.toList (by simpa using h2) (by rw [List.take_of_length_le (by simp)])
    refine ⟨.slice (some ⟨w.heap.size, 0, none⟩) n n, _, g', ?_, h5, h7, h6⟩
    have h1' : Instr.fill (fun k => some (k * sz, sz)) ((Array.range (n * sz)).map (zero[· % zero.size]!)) ((parts.map fun (i, x) => (i, ρ x)).toList) = some arr := by
     rw [← h1];simp
    unfold execOp;simp only [ho, Instr.buildSlice, Sem.run_bind, run_underlying hu, Result.andThen_ok, run_sizeOf hse];have hnn : ¬ n * sz > 2 ^ 24 := by omega
    simp only [if_neg hnn];by_cases h0 : n * sz = 0
    ·rw [if_pos h0] at hzero
     subst hzero;simp only [if_pos h0, Sem.run_bind, Sem.run_pure, Result.andThen_ok, h1', newRow, newObj, Sem.run];rfl
    ·rw [if_neg h0] at hzero
     subst hzero;have hzv : (zeroValue el).run P w = .ok zv w := by simp [zeroValue, typeInfo, hz1, hz2]
     simp only [if_neg h0, Sem.run_bind, hzv, Sem.run_pure, Result.andThen_ok, h1', newRow, newObj, Sem.run];rfl
   ·cases h
  ·cases h
def keeps (Kp : List Nat) (S S' : Ae) : Prop := ∀ k ∈ Kp, S'[k]? = S[k]?
inductive K4 where
 | rp | wr | al | ot
def E5 (lp wp : List Nat) (d : Option Nat) (op : Op) : K4 := match d with
 | some d => if lp.contains d then .rp else if wp.contains d then (match op with
   | .call c => (match c.callee with
    | .builtin _ => .al
    | _ => .wr)
   | .buildSlice .. => .al
   | _ => .wr) else match op with
  | .alloc _ => .al
  | _ => .ot
 | none => .ot
inductive K5 where
 | rp | wr | ap | ot
def Jv (lp wp : List Nat) (d : Option Nat) (op : Op) : K5 := match E5 lp wp d op with
 | .rp => .rp
 | .wr => .wr
 | .al => (match op with
  | .call _ => .ap
  | .buildSlice .. => .ap
  | _ => .ot)
 | .ot => .ot
def BK (P : Program) (Kp lp wp : List Nat) (cls : Op → Cls) (o : Oper) (e : Af) (S : Ae) (v : AV) (S' : Ae) : Prop :=
 match E5 lp wp o.dst o.op with
 | .rp => S' = S ∧ ∃ k ∈ Kp, ∀ S2 : Ae, S2[k]? = S[k]? → AE P o e S2 v S2
 | .wr => S'.length = S.length ∧ keeps Kp S S' ∧ ∀ R, AE P o e (S ++ R) v (S' ++ R)
 | .al => (∃ z, S' = S ++ [z] ∧ ∀ S2 : Ae, S2.length = S.length → AE P o e S2 v (S2 ++ [z])) ∧ keeps Kp S S'
 | .ot => B0 P (cls o.op) o e S v S' ∧ keeps Kp S S'
theorem BK.does {P : Program} {Kp lp wp : List Nat} {cls : Op → Cls} {o : Oper} {e : Af} {S S' : Ae} {v : AV} (h : BK P Kp lp wp cls o e S v S') : AE P o e S v S' := by
 unfold BK at h;split at h
 ·obtain ⟨rfl, k, _, h⟩ := h; exact h _ rfl
 ·have := h.2.2 []; simpa using this
 ·obtain ⟨⟨z, rfl, h⟩, _⟩ := h; exact h _ rfl
 ·exact h.1.does
theorem BK.keeps {P : Program} {Kp lp wp : List Nat} {cls : Op → Cls} {o : Oper} {e : Af} {S S' : Ae} {v : AV} (h : BK P Kp lp wp cls o e S v S') : keeps Kp S S' := by
 unfold BK at h;split at h
 ·obtain ⟨rfl, _⟩ := h; exact fun _ _ => rfl
 ·exact h.2.1
 ·exact h.2
 ·exact h.2
theorem BK.put {P : Program} {Kp lp wp : List Nat} {cls : Op → Cls} {o : Oper} {e : Af} {S S' : Ae} {v : AV} {ops : Array Oper} {dst : Option Nat} {u : AV} (h : ∀ d, dst = some d → d ∉ o.looksAt ops) : BK P Kp lp wp cls o (Pe.put e dst u) S v S' ↔ BK P Kp lp wp cls o e S v S' := by
 unfold BK;split
 ·exact and_congr Iff.rfl (exists_congr fun k => and_congr Iff.rfl (forall_congr' fun S2 => imp_congr Iff.rfl (AE.put h)))
 ·exact and_congr Iff.rfl (and_congr Iff.rfl (forall_congr' fun R => AE.put h))
 ·exact and_congr (exists_congr fun z => and_congr Iff.rfl (forall_congr' fun S2 => imp_congr Iff.rfl (AE.put h))) Iff.rfl
 ·exact and_congr (B0.put h) Iff.rfl
def G0 (lp wp : List Nat) (cls : Op → Cls) (ops : Array Oper) (x y : Oper) : Bool :=
 x.apart ops y && (match E5 lp wp x.dst x.op, E5 lp wp y.dst y.op with
  | .rp, _ => true
  | _, .rp => true
  | .wr, .al => true
  | .wr, .ot => (match cls y.op with | .free => true | _ => false)
  | .al, .ot => (match cls y.op with | .free => true | _ => false)
  | .ot, .wr => (match cls x.op with | .free => true | _ => false)
  | .ot, .al => (match cls x.op with | .free => true | .read => true | _ => false)
  | .ot, .ot => (match cls x.op, cls y.op with
   | .free, _ => true
   | _, .free => true
   | .read, .read => true
   | .read, .fresh => true
   | _, _ => false)
  | _, _ => false)
theorem BK.swap {P : Program} {Kp lp wp : List Nat} {cls : Op → Cls} {ops : Array Oper} {oi oj : Oper} {e : Af} {S Si Sj : Ae} {v u : AV} (hap : G0 lp wp cls ops oi oj = true) (hi : BK P Kp lp wp cls oi e S v Si) (hj : BK P Kp lp wp cls oj e Si u Sj) :
  ∃ Sm, BK P Kp lp wp cls oj e S u Sm ∧ BK P Kp lp wp cls oi e Sm v Sj := by
 have hki := hi.keeps;have hkj := hj.keeps;simp only [G0, Bool.and_eq_true] at hap;have hcls := hap.2;unfold BK at hi hj ⊢;cases hri : E5 lp wp oi.dst oi.op with
 | rp =>
  simp only [hri] at hi hj ⊢;obtain ⟨rfl, k, hk, hi⟩ := hi;exact ⟨Sj, hj, rfl, k, hk, fun S2 h2 => hi S2 (h2.trans (hkj k hk))⟩
 | wr =>
  cases hrj : E5 lp wp oj.dst oj.op with
  | rp =>
   simp only [hri, hrj] at hi hj ⊢;obtain ⟨rfl, k, hk, hj⟩ := hj;exact ⟨S, ⟨rfl, k, hk, fun S2 h2 => hj S2 (h2.trans (hki k hk).symm)⟩, hi⟩
  | wr => rw [hri, hrj] at hcls; cases hcls
  | al =>
   simp only [hri, hrj] at hi hj ⊢;obtain ⟨hl, _, hi⟩ := hi;obtain ⟨⟨z, rfl, hj⟩, _⟩ := hj;have h1 : Pe.keeps Kp S (S ++ [z]) := fun k hk => by
    have h1 := hkj k hk;rcases Nat.lt_trichotomy k S.length with hlt | heq | hgt
    ·rw [List.getElem?_append_left hlt]
    ·exfalso
     rw [heq, ← hl, List.getElem?_append_right (Nat.le_refl _), Nat.sub_self, List.getElem?_eq_none (Nat.le_refl _)] at h1
     cases h1
    ·rw [List.getElem?_eq_none (by simp; omega), List.getElem?_eq_none (by omega)]
   have hS : Pe.keeps Kp S (S ++ [z]) ∧ Pe.keeps Kp (S ++ [z]) (Si ++ [z]) := ⟨h1, fun k hk => by rw [hkj k hk, hki k hk, h1 k hk]⟩
   refine ⟨S ++ [z], ⟨⟨z, rfl, fun S2 h2 => hj S2 (by omega)⟩, hS.1⟩, by simp [hl], hS.2, fun R => ?_⟩
   rw [List.append_assoc, List.append_assoc];exact hi _
  | ot =>
   simp only [hri, hrj] at hi hj hcls ⊢;obtain ⟨hl, hk, hi⟩ := hi;cases hcj : cls oj.op with
   | free =>
    rw [hcj] at hj;obtain ⟨⟨rfl, hj⟩, _⟩ := hj;exact ⟨S, ⟨⟨rfl, hj⟩, fun _ _ => rfl⟩, hl, hk, hi⟩
   | read => rw [hcj] at hcls; cases hcls
   | fresh => rw [hcj] at hcls; cases hcls
   | write => rw [hcj] at hcls; cases hcls
 | al =>
  cases hrj : E5 lp wp oj.dst oj.op with
  | rp =>
   simp only [hri, hrj] at hi hj ⊢;obtain ⟨rfl, k, hk, hj⟩ := hj;exact ⟨S, ⟨rfl, k, hk, fun S2 h2 => hj S2 (h2.trans (hki k hk).symm)⟩, hi⟩
  | wr => rw [hri, hrj] at hcls; cases hcls
  | al => rw [hri, hrj] at hcls; cases hcls
  | ot =>
   simp only [hri, hrj] at hi hj hcls ⊢;cases hcj : cls oj.op with
   | free =>
    rw [hcj] at hj;obtain ⟨⟨rfl, hj⟩, _⟩ := hj;exact ⟨S, ⟨⟨rfl, hj⟩, fun _ _ => rfl⟩, hi⟩
   | read => rw [hcj] at hcls; cases hcls
   | fresh => rw [hcj] at hcls; cases hcls
   | write => rw [hcj] at hcls; cases hcls
 | ot =>
  cases hrj : E5 lp wp oj.dst oj.op with
  | rp =>
   simp only [hri, hrj] at hi hj ⊢;obtain ⟨rfl, k, hk, hj⟩ := hj;exact ⟨S, ⟨rfl, k, hk, fun S2 h2 => hj S2 (h2.trans (hki k hk).symm)⟩, hi⟩
  | wr =>
   simp only [hri, hrj] at hi hj hcls ⊢;cases hci : cls oi.op with
   | free =>
    rw [hci] at hi;obtain ⟨⟨rfl, hi⟩, _⟩ := hi;exact ⟨Sj, hj, ⟨rfl, hi⟩, fun _ _ => rfl⟩
   | read => rw [hci] at hcls; cases hcls
   | fresh => rw [hci] at hcls; cases hcls
   | write => rw [hci] at hcls; cases hcls
  | al =>
   simp only [hri, hrj] at hi hj hcls ⊢;cases hci : cls oi.op with
   | free =>
    rw [hci] at hi;obtain ⟨⟨rfl, hi⟩, _⟩ := hi;exact ⟨Sj, hj, ⟨rfl, hi⟩, fun _ _ => rfl⟩
   | read =>
    rw [hci] at hi;obtain ⟨⟨rfl, hi⟩, _⟩ := hi;obtain ⟨⟨z, rfl, hj⟩, hk⟩ := hj;exact ⟨_, ⟨⟨z, rfl, hj⟩, hk⟩, ⟨rfl, fun R' => by rw [List.append_assoc]; exact hi _⟩, fun _ _ => rfl⟩
   | fresh => rw [hci] at hcls; cases hcls
   | write => rw [hci] at hcls; cases hcls
  | ot =>
   simp only [hri, hrj] at hi hj hcls ⊢;obtain ⟨hi, _⟩ := hi;obtain ⟨hj, _⟩ := hj;cases hci : cls oi.op with
   | free =>
    rw [hci] at hi;obtain ⟨rfl, hi⟩ := hi;exact ⟨Sj, ⟨hj, hkj⟩, ⟨rfl, hi⟩, fun _ _ => rfl⟩
   | read =>
    rw [hci] at hi;obtain ⟨rfl, hi⟩ := hi;cases hcj : cls oj.op with
    | free =>
     rw [hcj] at hj;obtain ⟨rfl, hj⟩ := hj;exact ⟨_, ⟨⟨rfl, hj⟩, hkj⟩, ⟨rfl, hi⟩, fun _ _ => rfl⟩
    | read =>
     rw [hcj] at hj;obtain ⟨rfl, hj⟩ := hj;exact ⟨_, ⟨⟨rfl, hj⟩, hkj⟩, ⟨rfl, hi⟩, fun _ _ => rfl⟩
    | fresh =>
     rw [hcj] at hj;obtain ⟨⟨R, rfl⟩, hj⟩ := hj;exact ⟨_, ⟨⟨⟨R, rfl⟩, hj⟩, hkj⟩, ⟨rfl, fun R' => by rw [List.append_assoc]; exact hi (R ++ R')⟩, fun _ _ => rfl⟩
    | write => rw [hci, hcj] at hcls; cases hcls
   | fresh =>
    rw [hci] at hi;cases hcj : cls oj.op with
    | free =>
     rw [hcj] at hj;obtain ⟨rfl, hj⟩ := hj;exact ⟨_, ⟨⟨rfl, hj⟩, fun _ _ => rfl⟩, hi, hki⟩
    | read => rw [hci, hcj] at hcls; cases hcls
    | fresh => rw [hci, hcj] at hcls; cases hcls
    | write => rw [hci, hcj] at hcls; cases hcls
   | write =>
    rw [hci] at hi;cases hcj : cls oj.op with
    | free =>
     rw [hcj] at hj;obtain ⟨rfl, hj⟩ := hj;exact ⟨_, ⟨⟨rfl, hj⟩, fun _ _ => rfl⟩, hi, hki⟩
    | read => rw [hci, hcj] at hcls; cases hcls
    | fresh => rw [hci, hcj] at hcls; cases hcls
    | write => rw [hci, hcj] at hcls; cases hcls
section
variable {P : Program} {N N0 : Nat} {w0 : World} {g0 : Gh} {pf rf : List FuncId} {Kp lp wp : List Nat}
def xOp4 (P : Program) (Kp lp wp : List Nat) (cls : Op → Cls) (ops : Array Oper) (i : Nat) (K : Af → Ae → Prop) (e : Af) (S : Ae) : Prop :=
 match ops[i]? with
 | none => K e S
 | some o => match BP ops o e with
  | some true => ∃ v S', BK P Kp lp wp cls o e S v S' ∧ K (Pe.put e o.dst v) S'
  | some false => K (Pe.put e o.dst (.tup [])) S
  | none => False
theorem Xh {cls : Op → Cls} {ops : Array Oper} {i : Nat} {K K' : Af → Ae → Prop} {e : Af} {S : Ae} (h : ∀ e S, K e S → K' e S) (hh : xOp4 P Kp lp wp cls ops i K e S) : xOp4 P Kp lp wp cls ops i K' e S := by
 unfold xOp4 at *;split
 ·rename_i ho; simp only [ho] at hh; exact h _ _ hh
 ·rename_i o ho
  simp only [ho] at hh;split
  ·rename_i hw; simp only [hw] at hh; obtain ⟨v, S', h1, h2⟩ := hh; exact ⟨v, S', h1, h _ _ h2⟩
  ·rename_i hw; simp only [hw] at hh; exact h _ _ hh
  ·rename_i hw; simp only [hw] at hh
def JR (P : Program) (Kp lp wp : List Nat) (cls : Op → Cls) (md : Region.Mode) (ops : Array Oper) (Q : Af → Ae → Prop) : Nat → Array Bool → Af → Ae → Prop
 | 0, listed, e, S => Region.ready md ops listed = [] ∧ Q e S
 | fuel + 1, listed, e, S =>
  (Region.ready md ops listed = [] → Q e S) ∧
  ∀ i ∈ Region.ready md ops listed, xOp4 P Kp lp wp cls ops i (JR P Kp lp wp cls md ops Q fuel (listed.setIfInBounds i true)) e S
theorem LR {ro : Option Nat} {cls : Op → Cls} {md : Region.Mode} {ops : Array Oper} (hds : Db N ops = true) {Q : Af → Ae → Prop} {Q' : Exit → Act → World → Prop} (hQ : ∀ e S a w, AJ N w0 g0 e S a w → Q e S → Q' .normal a w) :
  ∀ (fuel : Nat) (listed : Array Bool) (e : Af) (S : Ae) (a : Act) (w : World), AJ N w0 g0 e S a w → JR P Kp lp wp cls md ops Q fuel listed e S → wpAnyIn (wR ro) 0 P md ops Q' fuel listed a w
 | 0, _, e, S, a, w, hc, h => ⟨h.1, hQ e S a w hc h.2⟩
 | fuel + 1, listed, e, S, a, w, hc, h => ⟨fun h0 => hQ e S a w hc (h.1 h0), fun i hi => by
  have hx := h.2 i hi;unfold xOp4 at hx;unfold wpOpIn;split
  ·rename_i ho; simp only [ho] at hx; exact LR hds hQ fuel _ e S a w hc hx
  ·rename_i o ho
   simp only [ho] at hx;have hd := Nc hds ho;have her : ∃ g, Dh w g e a := by obtain ⟨_, _, g, _, h4, _⟩ := hc; exact ⟨g, h4⟩
   obtain ⟨g, her⟩ := her;split at hx
   ·rename_i hw
    rw [Hq her hw];obtain ⟨v, S', h1, h2⟩ := hx;simp only [if_true];exact hc.does hd h1.does (fun a' w' hc' => LR hds hQ fuel _ _ _ a' w' hc' h2) ro
   ·rename_i hw
    rw [Hq her hw];simp only [Bool.false_eq_true, if_false];exact ⟨fun _ _ => trivial, LR hds hQ fuel _ _ _ _ w (hc.skip hd) hx⟩
   ·exact hx.elim⟩
def JK (P : Program) (Kp lp wp : List Nat) (cls : Op → Cls) (ops : Array Oper) (o : Oper) (e : Af) (S : Ae) (v : AV) (S' : Ae) : Prop :=
 (BP ops o e = some true ∧ BK P Kp lp wp cls o e S v S') ∨ (BP ops o e = some false ∧ v = .tup [] ∧ S' = S)
theorem JK.xOp4 {cls : Op → Cls} {ops : Array Oper} {i : Nat} {o : Oper} {e : Af} {S S' : Ae} {v : AV} (hi : ops[i]? = some o) (hy : JK P Kp lp wp cls ops o e S v S') {K : Af → Ae → Prop} (h : K (Pe.put e o.dst v) S') : xOp4 P Kp lp wp cls ops i K e S := by
 unfold Pe.xOp4;simp only [hi];rcases hy with ⟨hw, hx⟩ | ⟨hw, rfl, rfl⟩
 ·simp only [hw]; exact ⟨v, S', hx, h⟩
 ·simp only [hw]; exact h
theorem Xf {cls : Op → Cls} {ops : Array Oper} {i : Nat} {o : Oper} {e : Af} {S : Ae} {K : Af → Ae → Prop} (hi : ops[i]? = some o) (h : xOp4 P Kp lp wp cls ops i K e S) : ∃ v S', JK P Kp lp wp cls ops o e S v S' ∧ K (Pe.put e o.dst v) S' := by
 unfold xOp4 at h;simp only [hi] at h;split at h
 ·rename_i hw; obtain ⟨v, S', h1, h2⟩ := h; exact ⟨v, S', .inl ⟨hw, h1⟩, h2⟩
 ·rename_i hw; exact ⟨.tup [], S, .inr ⟨hw, rfl, rfl⟩, h⟩
 ·exact h.elim
theorem Xg {cls : Op → Cls} {ops : Array Oper} {j : Nat} {oi oj : Oper} {v : AV} {e : Af} {S Si : Ae} (hj : ops[j]? = some oj) (hap : G0 lp wp cls ops oi oj = true) {K : Af → Ae → Prop}
  (hy : JK P Kp lp wp cls ops oi e S v Si) (h : xOp4 P Kp lp wp cls ops j K (Pe.put e oi.dst v) Si) :
  xOp4 P Kp lp wp cls ops j (fun e' S' => ∃ Si', JK P Kp lp wp cls ops oi e' S' v Si' ∧ K (Pe.put e' oi.dst v) Si') e S := by
 have hap0 := hap;simp only [G0, Bool.and_eq_true] at hap;obtain ⟨h1, h2, h3⟩ := Oper.apart_spec hap.1;have keep : ∀ u, BP ops oi (Pe.put e oj.dst u) = BP ops oi e := fun u => NE h3
 unfold xOp4 at *;simp only [hj] at *;rw [NE h1] at h;split
 ·rename_i hw
  simp only [hw] at h;obtain ⟨u, Sj, hu, hn⟩ := h;rw [BK.put h1] at hu;rcases hy with ⟨hwi, hx⟩ | ⟨hwi, rfl, rfl⟩
  ·obtain ⟨Sm, a1, a2⟩ := BK.swap hap0 hx hu
   exact ⟨u, Sm, a1, Sj, .inl ⟨by rw [keep]; exact hwi, (BK.put h3).2 a2⟩, by rw [← Fq e v u h2]; exact hn⟩
  ·exact ⟨u, Sj, hu, Sj, .inr ⟨by rw [keep]; exact hwi, rfl, rfl⟩, by rw [← Fq e _ u h2]; exact hn⟩
 ·rename_i hw
  simp only [hw] at h;refine ⟨Si, ?_, by rw [← Fq e v _ h2]; exact h⟩
  rcases hy with ⟨hwi, hx⟩ | ⟨hwi, rfl, rfl⟩
  ·exact .inl ⟨by rw [keep]; exact hwi, (BK.put h3).2 hx⟩
  ·exact .inr ⟨by rw [keep]; exact hwi, rfl, rfl⟩
 ·rename_i hw
  simp only [hw] at h
def Ci (P : Program) (Kp lp wp : List Nat) (cls : Op → Cls) (ops : Array Oper) (Q : Af → Ae → Prop) : List Oper → Af → Ae → Prop
 | [], e, S => Q e S
 | o :: rest, e, S => match BP ops o e with
  | some true => ∃ v S', BK P Kp lp wp cls o e S v S' ∧ Ci P Kp lp wp cls ops Q rest (Pe.put e o.dst v) S'
  | some false => Ci P Kp lp wp cls ops Q rest (Pe.put e o.dst (.tup [])) S
  | none => False
def Pn (lp wp : List Nat) (cls : Op → Cls) (md : Region.Mode) (ops : Array Oper) (listed : Array Bool) (k : Nat) : Bool :=
 match ops[k]? with
 | none => false
 | some ok => (List.range ops.size).all fun j =>
  match ops[j]? with
  | none => true
  | some oj => j == k || listed.getD j true || B5 md ops k 8 j || G0 lp wp cls ops ok oj
theorem Zb6 {cls : Op → Cls} {md : Region.Mode} {ops : Array Oper} {listed : Array Bool} {k : Nat} {ok : Oper} (hk : ops[k]? = some ok) (h : Pn lp wp cls md ops listed k = true) :
  ∀ (j : Nat) oj, ops[j]? = some oj → j ≠ k → listed.getD j true = false → (∀ n, B5 md ops k n j = false) → G0 lp wp cls ops ok oj = true := by
 intro j oj hj hne hun hno;unfold Pn at h;rw [hk] at h;simp only at h
 have hlt : j < ops.size := (Array.getElem?_eq_some_iff.1 hj).1
 have h1 := (List.all_eq_true.1 h) j (List.mem_range.2 hlt);rw [hj] at h1;simp only [Bool.or_eq_true, beq_iff_eq] at h1;rcases h1 with ((h1 | h1) | h1) | h1
 ·exact absurd h1 hne
 ·rw [hun] at h1; cases h1
 ·rw [hno 8] at h1; cases h1
 ·exact h1
theorem Xq {cls : Op → Cls} {md : Region.Mode} {ops : Array Oper} {Q : Af → Ae → Prop} {i : Nat} {oi : Oper} {v : AV} (hi : ops[i]? = some oi) :
  ∀ (fuel : Nat) (listed : Array Bool) (e : Af) (S Si : Ae),
   (∀ n j, B5 md ops i n j = true → listed.getD j true = false) →
   (∀ (j : Nat) oj, ops[j]? = some oj → j ≠ i → listed.getD j true = false → (∀ n, B5 md ops i n j = false) → G0 lp wp cls ops oi oj = true) →
   i ∈ Region.ready md ops listed → JK P Kp lp wp cls ops oi e S v Si →
   JR P Kp lp wp cls md ops Q fuel (listed.setIfInBounds i true) (Pe.put e oi.dst v) Si → JR P Kp lp wp cls md ops Q (fuel + 1) listed e S := by
 intro fuel;induction fuel with
 | zero =>
  intro listed e S Si _ _ hr hy H;refine ⟨fun h => (by rw [h] at hr; cases hr), fun j hj => ?_⟩
  by_cases hji : j = i
  ·subst hji; exact hy.xOp4 hi H
  ·have := ready_mono hj hji
   rw [H.1] at this;cases this
 | succ fuel ih =>
  intro listed e S Si hinv hfree hr hy H;refine ⟨fun h => (by rw [h] at hr; cases hr), fun j hj => ?_⟩
  by_cases hji : j = i
  ·subst hji; exact hy.xOp4 hi H
  ·have h1 := H.2 j (ready_mono hj hji)
   have hnd := UH hinv hj hji;obtain ⟨hjun, oj, hoj, hall⟩ := mem_ready.1 hj;have h2 := Xg hoj (hfree j oj hoj hji hjun hnd) hy h1;have hinv' : ∀ n k, B5 md ops i n k = true → (listed.setIfInBounds j true).getD k true = false := fun n k hk => by
    have hjk : j ≠ k := fun e => by rw [← e, hnd n] at hk; cases hk
    rw [getD_set_ne true hjk];exact hinv n k hk
   have hfree' : ∀ (k : Nat) ok, ops[k]? = some ok → k ≠ i → (listed.setIfInBounds j true).getD k true = false →
     (∀ n, B5 md ops i n k = false) → G0 lp wp cls ops oi ok = true := fun k ok hk hki hun hno => by
    refine hfree k ok hk hki ?_ hno
    by_cases hjk : j = k
    ·subst hjk; exact hjun
    ·rw [getD_set_ne true hjk] at hun; exact hun
   refine Xh (fun e' S' h3 => ?_) h2
   obtain ⟨Si', h3, h4⟩ := h3;refine ih (listed.setIfInBounds j true) e' S' Si' hinv' hfree' (ready_mono hr (Ne.symm hji)) h3 ?_
   rw [Array.setIfInBounds_comm _ _ hji];exact h4
def K7 (lp wp : List Nat) (cls : Op → Cls) (md : Region.Mode) (ops : Array Oper) : List Nat → Array Bool → Bool
 | [], listed => (Region.ready md ops listed).isEmpty
 | k :: r, listed => (Region.ready md ops listed).contains k && Pn lp wp cls md ops listed k && K7 lp wp cls md ops r (listed.setIfInBounds k true)
def K6 (lp wp : List Nat) (cls : Op → Cls) (ops : Array Oper) (ord : List Nat) : Bool := ord.length == ops.size && K7 lp wp cls .any ops ord (Array.replicate ops.size false)
theorem QB {cls : Op → Cls} {md : Region.Mode} {ops : Array Oper} {Q : Af → Ae → Prop} : ∀ (l : List Nat) (listed : Array Bool) (e : Af) (S : Ae), IW md ops listed →
  K7 lp wp cls md ops l listed = true → Ci P Kp lp wp cls ops Q (l.filterMap fun i => ops[i]?) e S → JR P Kp lp wp cls md ops Q l.length listed e S
 | [], _, _, _, _, hB, h => ⟨by simpa [K7] using hB, h⟩
 | k :: l, listed, e, S, hc, hB, h => by
  simp only [K7, Bool.and_eq_true] at hB;obtain ⟨⟨hr, hf⟩, hB'⟩ := hB;have hr : k ∈ Region.ready md ops listed := by simpa using hr
  obtain ⟨hun, o, h0, _⟩ := mem_ready.1 hr;rw [List.filterMap_cons, h0] at h;have hst : xOp4 P Kp lp wp cls ops k (Ci P Kp lp wp cls ops Q (l.filterMap fun i => ops[i]?)) e S := by unfold xOp4; simp only [h0]; exact h
  obtain ⟨v, S', hy, hK⟩ := Xf h0 hst;exact Xq h0 l.length listed e S S' (UG hc hun) (Zb6 h0 hf) hr hy (QB l _ _ _ (UZ hc hr) hB' hK)
theorem Ov {ro : Option Nat} {cls : Op → Cls} {ops : Array Oper} {ord : List Nat} {id : Nat} {Q : Af → Ae → Prop} {Q' : Exit → Act → World → Prop} {e : Af} {S : Ae} {a : Act} {w : World} (hm : P.follows .mixedOrders = true) (hB : K6 lp wp cls ops ord = true) (hds : Db N ops = true)
  (hQ : ∀ e S a w, AJ N w0 g0 e S a w → Q e S → Q' .normal a w) (hc : AJ N w0 g0 e S a w) (h : Ci P Kp lp wp cls ops Q (ord.filterMap fun i => ops[i]?) e S) : (Code.region id ops true).wpIn (wR ro) 0 P Q' a w := by
 refine wpIn_region_any hm (LR (Kp := Kp) (lp := lp) (wp := wp) (cls := cls) hds hQ _ _ e S a _ (hc.draw _) ?_)
 simp only [K6, Bool.and_eq_true, beq_iff_eq] at hB;have h0 : IW .any ops (Array.replicate ops.size false) := fun j oj hj hl => by
  have hlt : j < ops.size := (Array.getElem?_eq_some_iff.1 hj).1
  simp [hlt] at hl
 have := QB (md := .any) ord (Array.replicate ops.size false) e S h0 hB.2 h;rw [hB.1] at this;exact this
end
inductive CD where
 | of (c : CC) | seq (a b : CD) | cond (c : Operand) (t f : CD) | block (id : Nat) (b : CD) | loop (b : CD) | spec (Kp lp wp : List Nat) (l : List AO) | weak (c : CD) | raw (ops : Array Oper)
def Qa (N0 : Nat) (e : Af) (S : Ae) (K : Af → Ae → Prop) : Prop := ∃ e' S', Ay N0 e S e' S' ∧ K e' S'
theorem HU {N0 : Nat} {e : Af} {S : Ae} {K : Af → Ae → Prop} (h : K e S) : Qa N0 e S K := ⟨e, S, Ay.refl N0 e S, h⟩
def Ig (Kp : List Nat) (op : Op) (e : Af) : Bool := match op with
 | .load _ x => (match ev e x with
  | .ptr k _ => Kp.contains k
  | .pst _ _ => !Kp.isEmpty
  | _ => false)
 | _ => false
def Ze4 (P : Program) (op : Op) (e : Af) (S : Ae) (v : AV) (S' : Ae) : Prop := S'.length = S.length ∧ match op with
 | .call c => (match c.callee with
  | .value (.func f) => ∀ R, AC P f ((c.args.toList.map (ev e)).map AV.wk) (S ++ R) v (S' ++ R)
  | _ => False)
 | _ => False
def Qb (P : Program) (op : Op) (e : Af) (S : Ae) : Option (AV × SObj) := match op with
 | .call c => (match c.callee with
  | .builtin .append => (match c.args.toList, c.argTypes.toList with
   | [x, y], [t, u] => LH P t u S (ev e x) (ev e y)
   | _, _ => none)
  | _ => none)
 | .buildSlice t n parts => NF P t S n (parts.toList.map fun p => (p.1, ev e p.2))
 | _ => none
def Dw (P : Program) (pf rf : List FuncId) (Kp lp wp : List Nat) : List AO → Af → Ae → (Af → Ae → Prop) → Prop
 | [], e, S, K => K e S
 | o :: rest, e, S, K => o.gd = none ∧ match Jv lp wp o.dst o.op with
  | .rp => Bi P pf rf [⟨o.dst, o.op, none⟩] e S (fun e' S' => Ig Kp o.op e = true ∧ Dw P pf rf Kp lp wp rest e' S' K)
  | .ap => ∃ v z, Qb P o.op e S = some (v, z) ∧ keeps Kp S (S ++ [z]) ∧ Dw P pf rf Kp lp wp rest (put e o.dst v) (S ++ [z]) K
  | .wr => ∃ v S', Ze4 P o.op e S v S' ∧ keeps Kp S S' ∧ Dw P pf rf Kp lp wp rest (put e o.dst v) S' K
  | _ => Bi P pf rf [⟨o.dst, o.op, none⟩] e S (fun e' S' => keeps Kp S S' ∧ Dw P pf rf Kp lp wp rest e' S' K)
def BE (P : Program) (pf rf : List FuncId) (N0 : Nat) : CD → (AX → Af → Ae → Prop) → Af → Ae → Prop
 | .of c, Q, e, S => AW P pf rf N0 c Q e S
 | .spec Kp lp wp l, Q, e, S => Dw P pf rf Kp lp wp l e S (Q .norm)
 | .weak c, Q, e, S => Qa N0 e S (BE P pf rf N0 c Q)
 | .raw ops, Q, e, S => Di P (AT P pf rf) .any ops (Q .norm) ops.size (Array.replicate ops.size false) e S
 | .seq a b, Q, e, S => BE P pf rf N0 a (Cb Q (BE P pf rf N0 b Q)) e S
 | .cond c t f, Q, e, S => match ev e c with
  | .bo b => C8 b (BE P pf rf N0 t Q e S) (BE P pf rf N0 f Q e S)
  | _ => False
 | .block id b, Q, e, S => BE P pf rf N0 b (Ee id Q) e S
 | .loop b, Q, e, S => HQ N0 (BE P pf rf N0 b) Q e S
def BS (sp : List (Nat × (List Nat × List Nat × List Nat))) : Code → Bool
 | .region id _ _ => (sp.lookup id).isSome
 | .seq a b => BS sp a || BS sp b
 | .cond _ a b => BS sp a || BS sp b
 | .block _ b => BS sp b
 | .loop b => BS sp b
 | _ => false
def OH (ord : List (Nat × List Nat)) (id : Nat) (ops : Array Oper) : List Nat := match ord.lookup id with
 | none => List.range ops.size
 | some l => l
def BT (sp : List (Nat × (List Nat × List Nat × List Nat))) (ord : List (Nat × List Nat)) (c : Code) : CD :=
 if !BS sp c then .of (DR ord c) else match c with
 | .region id ops d => (match sp.lookup id with
  | some (Kp, lp, wp) => if lp.head? == some 1000000 && d then .weak (.raw ops) else if lp.isEmpty && wp.isEmpty then .weak (.of (DR ord (.region id ops d))) else .weak (.spec Kp lp wp ((if d then (OH ord id ops).filterMap (fun i => ops[i]?) else ops.toList).map (C9 ops)))
  | none => .of .bad)
 | .seq a b => .seq (BT sp ord a) (BT sp ord b)
 | .cond c a b => .cond c (BT sp ord a) (BT sp ord b)
 | .block id b => .block id (BT sp ord b)
 | .loop b => .loop (BT sp ord b)
 | _ => .of .bad
def Ds (P : Program) (pf rf : List FuncId) (N : Nat) (sp : List (Nat × (List Nat × List Nat × List Nat))) (ord : List (Nat × List Nat)) : Code → Bool
 | .region id ops draw => (match sp.lookup id with
  | some (_, lp, wp) => if lp.head? == some 1000000 && draw then Db N ops else if lp.isEmpty && wp.isEmpty then Ed P pf rf N ord (.region id ops draw) else Db N ops && (!draw || K6 lp wp (AT P pf rf) ops (OH ord id ops))
  | none => Ed P pf rf N ord (.region id ops draw))
 | .seq a b => Ds P pf rf N sp ord a && Ds P pf rf N sp ord b
 | .cond _ a b => Ds P pf rf N sp ord a && Ds P pf rf N sp ord b
 | .block _ b => Ds P pf rf N sp ord b
 | .loop b => Ds P pf rf N sp ord b
 | _ => true
section
variable {P : Program} {N N0 : Nat} {w0 : World} {g0 : Gh} {pf rf : List FuncId} {sp : List (Nat × (List Nat × List Nat × List Nat))} {ord : List (Nat × List Nat)}
theorem Zcz {c : Code} (h : BS sp c = false) : BT sp ord c = .of (DR ord c) := by
 unfold BT;rw [h];rfl
theorem Zcy {a b : Code} (h : BS sp (.seq a b) = true) : BT sp ord (.seq a b) = .seq (BT sp ord a) (BT sp ord b) := by
 rw [BT, h];rfl
theorem ZcB {x : Operand} {a b : Code} (h : BS sp (.cond x a b) = true) : BT sp ord (.cond x a b) = .cond x (BT sp ord a) (BT sp ord b) := by
 rw [BT, h];rfl
theorem ZcC {id : Nat} {b : Code} (h : BS sp (.block id b) = true) : BT sp ord (.block id b) = .block id (BT sp ord b) := by
 rw [BT, h];rfl
theorem ZcA {b : Code} (h : BS sp (.loop b) = true) : BT sp ord (.loop b) = .loop (BT sp ord b) := by
 rw [BT, h];rfl
theorem ZdB : ∀ {c : Code}, BS sp c = false → Ds P pf rf N sp ord c = true → Ed P pf rf N ord c = true := by
 intro c;induction c with
 | region id ops d =>
  intro h hk;simp only [BS, Option.isSome_eq_false_iff, Option.isNone_iff_eq_none] at h;simpa only [Ds, h] using hk
 | seq a b iha ihb =>
  intro h hk;simp only [BS, Bool.or_eq_false_iff] at h;simp only [Ds, Ed, Bool.and_eq_true] at hk ⊢;exact ⟨iha h.1 hk.1, ihb h.2 hk.2⟩
 | cond x a b iha ihb =>
  intro h hk;simp only [BS, Bool.or_eq_false_iff] at h;simp only [Ds, Ed, Bool.and_eq_true] at hk ⊢;exact ⟨iha h.1 hk.1, ihb h.2 hk.2⟩
 | block id b ih => intro h hk; exact ih (by simpa only [BS] using h) (by simpa only [Ds] using hk)
 | loop b ih => intro h hk; exact ih (by simpa only [BS] using h) (by simpa only [Ds] using hk)
 | _ => intro _ _; rfl
theorem JH {ro : Option Nat} (hm : P.follows .mixedOrders = true) (hN0 : g0.nid = N0) {c : Code} {Q : AX → Af → Ae → Prop} {e : Af} {S : Ae} {a : Act} {w : World} (hns : BS sp c = false) (hok : Ds P pf rf N sp ord c = true) (hc : AJ N w0 g0 e S a w) (h : BE P pf rf N0 (BT sp ord c) Q e S) : c.wpIn (wR ro) 0 P (ED N w0 g0 Q) a w := by
 rw [Zcz hns] at h;exact Wr hm hN0 c Q e S a w (ZdB hns hok) hc h
theorem Zc8 {o : Oper} {t : TypeId} {x : Operand} {e : Af} {S : Ae} {v : AV} {Kp : List Nat} (ho : o.op = .load t x) (hv : DW (Az P t) S (ev e x) = some v) (hp : Ig Kp o.op e = true) : ∃ k ∈ Kp, ∀ S2 : Ae, S2[k]? = S[k]? → AE P o e S2 v S2 := by
 rw [ho] at hp;unfold Ig at hp;simp only at hp
 split at hp
 ·rename_i k off hx
  refine ⟨k, by simpa using hp, fun S2 h2 => PL ho ?_⟩
  rw [hx] at hv ⊢;unfold DW at hv ⊢;split at hv
  ·rename_i hz he
   cases he
   simp only [h2];exact hv
  ·rename_i he; cases he
  ·rename_i he; cases he
  ·cases hv
 ·rename_i u off hx
  obtain ⟨k, hk⟩ : ∃ k, k ∈ Kp := by
   cases Kp with
   | nil => cases hp
   | cons k _ => exact ⟨k, by simp⟩
  refine ⟨k, hk, fun S2 _ => PL ho ?_⟩
  rw [hx] at hv ⊢;cases hz : Az P t with
  | none => rw [hz] at hv; cases hv
  | some z => rw [hz] at hv; exact hv
 ·cases hp
theorem Ga {Kp lp wp : List Nat} {ops : Array Oper} {Q : Af → Ae → Prop} : ∀ (l : List Oper) (e : Af) (S : Ae), Dw P pf rf Kp lp wp (l.map (C9 ops)) e S Q → Ci P Kp lp wp (AT P pf rf) ops Q l e S
 | [], e, S, h => h
 | o :: rest, e, S, h => by
  simp only [List.map_cons, Dw] at h;obtain ⟨hgd, h⟩ := h;have hg : BP ops o e = some true := by
   unfold C9 at hgd;unfold BP;cases hx : o.guard with
   | none => rfl
   | some p => obtain ⟨j, want⟩ := p; rw [hx] at hgd; cases hgd
  have hop : (C9 ops o).op = o.op := rfl;have hds : (C9 ops o).dst = o.dst := rfl;rw [hop, hds] at h;unfold Jv at h;unfold Ci;simp only [hg];unfold BK;have one : ∀ K : Af → Ae → Prop, Bi P pf rf [⟨o.dst, o.op, none⟩] e S K → AR P pf rf o.op e S (fun v S' => K (put e o.dst v) S') := fun K h => by
   rw [Bi] at h;obtain ⟨b, hb, h⟩ := Cr h;cases hb
   have h := h.1 rfl;have e1 : (fun v S' => Bi P pf rf [] (put e o.dst v) S' K) = fun v S' => K (put e o.dst v) S' := by funext v S'; rw [Bi]
   rw [e1] at h;exact h
  cases hk : E5 lp wp o.dst o.op with
  | rp =>
   rw [hk] at h;simp only at h ⊢
   have h := one _ h;cases hl : o.op with
   | load t x =>
    rw [hl] at h;unfold AR at h;simp only at h
    obtain ⟨v, hv, h1, h2⟩ := Cr h;rw [← hl] at h1;exact ⟨v, S, ⟨rfl, Zc8 hl hv h1⟩, Ga rest _ _ h2⟩
   | _ =>
    exfalso;obtain ⟨v, S', _, h2, _⟩ := LL h;unfold Ig at h2;rw [hl] at h2;cases h2
  | wr =>
   rw [hk] at h;simp only at h ⊢
   obtain ⟨v, S', ⟨h1, h2⟩, h3, h4⟩ := h;refine ⟨v, S', ⟨h1, h3, fun R => ?_⟩, Ga rest _ _ h4⟩
   split at h2
   ·rename_i c ho
    split at h2
    ·rename_i f hf
     refine Ls (fa := []) (ca := []) ho hf rfl ?_
     simp only [List.nil_append, List.append_nil];exact (h2 R).weak
    ·exact h2.elim
   ·exact h2.elim
  | al =>
   rw [hk] at h;simp only at h ⊢
   cases hl : o.op with
   | alloc t =>
    rw [hl] at h;simp only at h
    rw [← hl] at h;have h := one _ h;rw [hl] at h;unfold AR at h;simp only at h
    obtain ⟨z, hz, h1, h2⟩ := Cr h;refine ⟨_, _, ⟨⟨_, rfl, fun S2 h3 => ?_⟩, h1⟩, Ga rest _ _ h2⟩
    rw [← h3];exact UD hl hz
   | call c =>
    rw [hl] at h;simp only at h
    obtain ⟨v, z, h1, h2, h3⟩ := h;unfold Qb at h1;simp only at h1
    split at h1
    ·rename_i hb
     split at h1
     ·rename_i x y t u hargs hts
      have hc : c = { callee := .builtin .append, args := #[x, y], argTypes := #[t, u] } := by
       cases c with | mk ce ar at_ =>
       simp only at hb hargs hts
       rw [hb];congr 1
       ·exact Array.ext' hargs
       ·exact Array.ext' hts
      refine ⟨_, _, ⟨⟨_, rfl, fun S2 h4 => Zdg (by rw [hl, hc]) ?_⟩, h2⟩, Ga rest _ _ h3⟩
      unfold LH at h1 ⊢;rw [h4];exact h1
     ·cases h1
    ·cases h1
   | buildSlice t n parts =>
    rw [hl] at h;simp only at h
    obtain ⟨v, z, h1, h2, h3⟩ := h;unfold Qb at h1;simp only at h1
    refine ⟨_, _, ⟨⟨_, rfl, fun S2 h4 => Zc9 hl ?_⟩, h2⟩, Ga rest _ _ h3⟩
    unfold NF at h1 ⊢;rw [h4];exact h1
   | _ =>
    exfalso;unfold E5 at hk;rw [hl] at hk;split at hk
    ·split at hk
     ·cases hk
     ·split at hk <;> cases hk
    ·cases hk
  | ot =>
   rw [hk] at h;simp only at h ⊢
   have h := one _ h;obtain ⟨v, S', h1, h3, h4⟩ := LL h;exact ⟨v, S', ⟨h1, h3⟩, Ga rest _ _ h4⟩
theorem NT {ro : Option Nat} {Kp lp wp : List Nat} {cls : Op → Cls} {ops : Array Oper} {Q : Af → Ae → Prop} {Q' : Exit → Act → World → Prop} (hds : Db N ops = true) (hQ : ∀ e S a w, AJ N w0 g0 e S a w → Q e S → Q' .normal a w) :
  ∀ (l : List Oper), (∀ o ∈ l, ∃ i : Nat, ops[i]? = some o) → ∀ (e : Af) (S : Ae) (a : Act) (w : World), AJ N w0 g0 e S a w → Ci P Kp lp wp cls ops Q l e S → wpListIn (wR ro) 0 P ops Q' l a w
 | [], _, e, S, a, w, hc, h => hQ e S a w hc h
 | o :: l, hl, e, S, a, w, hc, h => by
  obtain ⟨i, hi⟩ := hl o (by simp)
  have hd := Nc hds hi;have her : ∃ g, Dh w g e a := by obtain ⟨_, _, g, _, h4, _⟩ := hc; exact ⟨g, h4⟩
  obtain ⟨g, her⟩ := her;unfold Ci at h;unfold wpListIn;split at h
  ·rename_i hw
   rw [Hq her hw];obtain ⟨v, S', h1, h2⟩ := h;simp only [if_true];exact hc.does hd h1.does (fun a' w' hc' => NT hds hQ l (fun o ho => hl o (by simp [ho])) _ _ a' w' hc' h2) ro
  ·rename_i hw
   rw [Hq her hw];simp only [Bool.false_eq_true, if_false];exact ⟨fun _ _ => trivial, NT hds hQ l (fun o ho => hl o (by simp [ho])) _ _ _ w (hc.skip hd) h⟩
  ·exact h.elim
theorem Ze6 {ro : Option Nat} (hm : P.follows .mixedOrders = true) (hN0 : g0.nid = N0) : ∀ (c : Code) (Q : AX → Af → Ae → Prop) (e : Af) (S : Ae) (a : Act) (w : World), Ds P pf rf N sp ord c = true → AJ N w0 g0 e S a w → BE P pf rf N0 (BT sp ord c) Q e S → c.wpIn (wR ro) 0 P (ED N w0 g0 Q) a w := by
 intro c;induction c with
 | region id ops draw =>
  intro Q e S a w hok hc h;cases hns : BS sp (.region id ops draw) with
  | false => exact JH hm hN0 hns hok hc h
  | true =>
   simp only [BS] at hns;obtain ⟨⟨Kp, lp, wp⟩, hs⟩ := Option.isSome_iff_exists.1 hns;have hQ : ∀ e S a w, AJ N w0 g0 e S a w → Q .norm e S → ED N w0 g0 Q .normal a w := fun e S a w hc hq => ⟨e, S, hc, hq⟩
   simp only [Ds, hs] at hok;simp only [BT, BS, hs, Option.isSome_some, Bool.not_true, Bool.false_eq_true, if_false] at h;by_cases hraw : (lp.head? == some 1000000 && draw) = true
   ·rw [if_pos hraw] at h hok
    simp only [BE] at h;obtain ⟨e1, S1, hwk, h⟩ := h;have hd : draw = true := (Bool.and_eq_true_iff.1 hraw).2;subst hd;exact wpIn_region_any hm (GI ro (cls := AT P pf rf) hok hQ _ _ e1 S1 a _ ((hwk N w0 g0 a w hN0 hc).draw _) h)
   rw [if_neg hraw] at h hok;by_cases hem : (lp.isEmpty && wp.isEmpty) = true
   ·rw [if_pos hem] at h hok
    simp only [BE] at h;obtain ⟨e1, S1, hwk, h⟩ := h;exact Wr hm hN0 _ Q e1 S1 a w hok (hwk N w0 g0 a w hN0 hc) h
   ·rw [if_neg hem] at h hok
    simp only [BE] at h;obtain ⟨e1, S1, hwk, h⟩ := h;have hc1 := hwk N w0 g0 a w hN0 hc;simp only [Bool.and_eq_true] at hok;cases draw with
    | true =>
     simp only [if_true, Bool.not_true, Bool.false_or] at h hok;exact Ov hm hok.2 hok.1 hQ hc1 (Ga _ e1 S1 h)
    | false =>
     simp only [Bool.false_eq_true, if_false] at h;refine wpIn_region_list (NT (cls := AT P pf rf) hok.1 hQ ops.toList (fun o ho => ?_) e1 S1 a w hc1 (Ga _ e1 S1 h))
     obtain ⟨i, hi⟩ := List.mem_iff_getElem?.1 ho;exact ⟨i, by simpa using hi⟩
 | seq x y ihx ihy =>
  intro Q e S a w hok hc h;cases hns : BS sp (.seq x y) with
  | false => exact JH hm hN0 hns hok hc h
  | true =>
   rw [Zcy hns] at h;simp only [Ds, Bool.and_eq_true] at hok;simp only [BE] at h;refine wpIn_seq (Go.wpIn_mono (ihx _ e S a w hok.1 hc h) ?_)
   intro ex a' w' hq;cases ex with
   | normal => obtain ⟨e', S', hc', h'⟩ := hq; exact ihy Q e' S' a' w' hok.2 hc' h'
   | exit id => exact hq
   | ret => exact hq
   | _ => exact hq.elim
 | cond c x y ihx ihy =>
  intro Q e S a w hok hc h;cases hns : BS sp (.cond c x y) with
  | false => exact JH hm hN0 hns hok hc h
  | true =>
   rw [ZcB hns] at h;simp only [Ds, Bool.and_eq_true] at hok;simp only [BE] at h;split at h
   ·rename_i b hb
    have hcb : a.eval c = .bool b := by
     obtain ⟨_, _, g, _, h4, _⟩ := hc;have := JC h4 c;rw [hb] at this;cases hv : a.eval c <;> rw [hv] at this <;> cases this
     rfl
    refine wpIn_cond_split hcb (fun ht => ihx Q e S a w hok.1 hc (h.1 ht)) (fun hf => ihy Q e S a w hok.2 hc (h.2 hf))
   ·exact h.elim
 | block id c ih =>
  intro Q e S a w hok hc h;cases hns : BS sp (.block id c) with
  | false => exact JH hm hN0 hns hok hc h
  | true =>
   rw [ZcC hns] at h;simp only [BE] at h;refine wpIn_block (Go.wpIn_mono (ih _ e S a w hok hc h) ?_)
   intro ex a' w' hq;cases ex with
   | normal => exact hq
   | exit i =>
    obtain ⟨e', S', hc', h'⟩ := hq;simp only [Ee] at h';simp only [Exit.inBlock];by_cases hi : i = id
    ·rw [if_pos hi] at h' ⊢; exact ⟨e', S', hc', h'⟩
    ·rw [if_neg hi] at h' ⊢; exact ⟨e', S', hc', h'⟩
   | ret => exact hq
   | _ => exact hq.elim
 | loop c ih =>
  intro Q e S a w hok hc h;cases hns : BS sp (.loop c) with
  | false => exact JH hm hN0 hns hok hc h
  | true =>
   rw [ZcA hns] at h;simp only [BE] at h;obtain ⟨I, ⟨n, e', S', hwk, hI⟩, hround⟩ := h;refine JU (fun n a w => ∃ e S, AJ N w0 g0 e S a w ∧ I n e S) n ⟨e', S', hwk N w0 g0 a w hN0 hc, hI⟩ ?_
   rintro n a w ⟨e, S, hc, hI⟩
   refine Go.wpIn_mono (ih _ e S a w hok hc (hround n e S hI)) ?_
   intro ex a' w' hq;cases ex with
   | normal =>
    obtain ⟨e1, S1, hc1, n', e2, S2, hlt, hwk', hI'⟩ := hq;exact ⟨n', hlt, e2, S2, hwk' N w0 g0 a' w' hN0 hc1, hI'⟩
   | exit i => exact hq
   | ret => exact hq
   | _ => exact hq.elim
 | _ =>
  intro Q e S a w hok hc h;exact JH hm hN0 rfl hok hc h
end
section
variable {P : Program}
theorem AC.enter4 {f : FuncId} {fn : Func} {c : Code} {args : List AV} {S S' : Ae} {v : AV} (pf rf : List FuncId) (sp : List (Nat × (List Nat × List Nat × List Nat))) (ord : List (Nat × List Nat)) (hf : P.funcs[f]? = some fn) (hb : fn.body = some c) (hname : fn.name ≠ "runtime.NumGoroutine") (hm : P.follows .mixedOrders = true)
  (hn : args.length ≤ fn.ntmps) (hok : Ds P pf rf fn.ntmps sp ord c = true) (h : BE P pf rf S.length (BT sp ord c) (CO P fn.results.toList S.length v S') (Ex args) S) : AC P f args S v S' := by
 exact AC.of_wp hf hb hname hn fun w g a hg hc => Ze6 hm hg c _ (Ex args) S a w hok hc h
end
section
variable (P : Program) (pf rf : List FuncId) (N0 : Nat) (Q : AX → Af → Ae → Prop) (e : Af) (S : Ae) (K : Af → Ae → Prop)
theorem Wk (c : CC) : BE P pf rf N0 (.of c) Q e S = AW P pf rf N0 c Q e S := rfl
theorem Wj (a b : CD) : BE P pf rf N0 (.seq a b) Q e S = BE P pf rf N0 a (Cb Q (BE P pf rf N0 b Q)) e S := rfl
theorem Wg (c : CD) : BE P pf rf N0 (.weak c) Q e S = Qa N0 e S (BE P pf rf N0 c Q) := rfl
theorem Wh (Kp lp wp : List Nat) (l : List AO) : BE P pf rf N0 (.spec Kp lp wp l) Q e S = Dw P pf rf Kp lp wp l e S (Q .norm) := rfl
def Qd (c : CD) : Prop := BE P pf rf N0 c Q e S
theorem Wm (c : Operand) (t f : CD) : BE P pf rf N0 (.cond c t f) Q e S = Lu (ev e c) (Qd P pf rf N0 Q e S t) (Qd P pf rf N0 Q e S f) := rfl
theorem Wf (c : CD) : Qd P pf rf N0 Q e S c = BE P pf rf N0 c Q e S := rfl
theorem Wn (id : Nat) (b : CD) : BE P pf rf N0 (.block id b) Q e S = BE P pf rf N0 b (Ee id Q) e S := rfl
theorem Wl (b : CD) : BE P pf rf N0 (.loop b) Q e S = HQ N0 (BE P pf rf N0 b) Q e S := rfl
theorem WD (Kp lp wp : List Nat) : Dw P pf rf Kp lp wp [] e S K = K e S := rfl
end
def Oc (P : Program) (pf rf : List FuncId) (K : Af → Ae → Prop) (Kp lp wp : List Nat) (op : Op) (rest : List AO) (e : Af) (e' : Af) (S' : Ae) : Prop := Ig Kp op e = true ∧ Dw P pf rf Kp lp wp rest e' S' K
def Od (P : Program) (pf rf : List FuncId) (K : Af → Ae → Prop) (Kp lp wp : List Nat) (rest : List AO) (S : Ae) (e' : Af) (S' : Ae) : Prop := keeps Kp S S' ∧ Dw P pf rf Kp lp wp rest e' S' K
section
variable {P : Program} {pf rf : List FuncId} {e e' : Af} {S S' : Ae} {K : Af → Ae → Prop} {Kp lp wp : List Nat} {rest : List AO}
theorem CS {d : Option Nat} {op : Op} (h : Bi P pf rf [⟨d, op, none⟩] e S (Oc P pf rf K Kp lp wp op rest e)) (hk : Jv lp wp d op = .rp := by rfl) : Dw P pf rf Kp lp wp (⟨d, op, none⟩ :: rest) e S K := by
 refine ⟨rfl, ?_⟩
 show match Jv lp wp d op with
  | .rp => _
  | .ap => _
  | .wr => _
  | _ => _
 rw [hk];exact h
theorem a4 {d : Option Nat} {op : Op} (h : Bi P pf rf [⟨d, op, none⟩] e S (Od P pf rf K Kp lp wp rest S)) (hk : Jv lp wp d op = .ot := by rfl) : Dw P pf rf Kp lp wp (⟨d, op, none⟩ :: rest) e S K := by
 refine ⟨rfl, ?_⟩
 show match Jv lp wp d op with
  | .rp => _
  | .ap => _
  | .wr => _
  | _ => _
 rw [hk];exact h
theorem k4 (h : Dw P pf rf Kp lp wp rest e' S' K) (hk : keeps Kp S S' := by (intro k hk; simp only [List.mem_cons, List.not_mem_nil, or_false] at hk; first | (subst hk; rfl) | (rcases hk with rfl | rfl <;> rfl) | (rcases hk with rfl | rfl | rfl <;> rfl))) : Od P pf rf K Kp lp wp rest S e' S' := ⟨hk, h⟩
theorem Et {op : Op} (h : Dw P pf rf Kp lp wp rest e' S' K) (hk : Ig Kp op e = true := by rfl) : Oc P pf rf K Kp lp wp op rest e e' S' := ⟨hk, h⟩
end
set_option maxRecDepth 100000
theorem run4 {A B : Prop} (h : B) (e : A = B := by
  conv =>
   lhs
   (try simp only [NH, NI, NJ, Wf, Fx, FU])
   (try simp -implicitDefEqProofs (maxSteps := 4000000) (disch := (first | omega | (simp only [List.length_append, List.length_cons, List.length_map, List.length_nil, List.length_take, List.length_drop]; omega))) only [↓Wk, ↓Wj, ↓Wh, ↓Wg, ↓Wm, ↓Wn, ↓Wl, ↓WD, ↓LM, LN, CQ, ↓reduceIte, Nat.reduceEqDiff, Nat.reduceAdd, Nat.reduceLT, Nat.reduceLeDiff, Nat.reduceMul, Nat.reduceSub, Int.reduceToNat, Int.reduceAdd, Int.reduceSub, Int.reduceMul, Int.reduceNeg, Int.reduceLE, Int.reduceLT, Int.reduceEq, Int.reduceBEq, Int.reduceBNe, Nat.reduceBEq, Nat.reduceBNe, DX, ER, F6, HD, IR, IL, Ht, GG, HE, HL, HM, HJ, HK, FG, DW, Hu, IP, IQ, HH, HG, F5, FF, D9, GZ, Fw, Ip, IN, HA, HF, IS, FH, EF, Hz, Ch, GU, apart, EQ, EO, EP, FK, GH, Fh, AV.wk, AV.wk2, AV.wk1, AV.cells, AV.solid, AV.ro, AV.ro1, ← List.map_take, ← List.map_drop, reduceCtorEq, Option.isNone_some, Option.isSome_none, Kw, Kv, Ki, J9, J5, J4, J3, J2, J1, J0, Ku, Ks, Kr, Kq, Ko, Kn, Km, Kl, Kk, Kj, Kh, Kg, Kf, Ke, Kc, Ka, J8, J7, J6])
   (try simp only [Fx, FU])) : A := e ▸ h
theorem runf4 {F A B : Prop} (f : F) (h : B) (e : F → A = B := by
  intro f;conv =>
   lhs
   (try simp only [NH, NI, NJ, Wf, Fx, FU])
   (try simp -implicitDefEqProofs (maxSteps := 4000000) (disch := (first | omega | (simp only [List.length_append, List.length_cons, List.length_map, List.length_nil, List.length_take, List.length_drop]; omega))) only [↓Wk, ↓Wj, ↓Wh, ↓Wg, ↓Wm, ↓Wn, ↓Wl, ↓WD, ↓LM, LN, CQ, ↓reduceIte, Nat.reduceEqDiff, Nat.reduceAdd, Nat.reduceLT, Nat.reduceLeDiff, Nat.reduceMul, Nat.reduceSub, Int.reduceToNat, Int.reduceAdd, Int.reduceSub, Int.reduceMul, Int.reduceNeg, Int.reduceLE, Int.reduceLT, Int.reduceEq, Int.reduceBEq, Int.reduceBNe, Nat.reduceBEq, Nat.reduceBNe, DX, ER, F6, HD, IR, IL, Ht, GG, HE, HL, HM, HJ, HK, FG, DW, Hu, IP, IQ, HH, HG, F5, FF, D9, GZ, Fw, Ip, IN, HA, HF, IS, FH, EF, Hz, Ch, GU, apart, EQ, EO, EP, FK, GH, Fh, AV.wk, AV.wk2, AV.wk1, AV.cells, AV.solid, AV.ro, AV.ro1, ← List.map_take, ← List.map_drop, reduceCtorEq, Option.isNone_some, Option.isSome_none, Kw, Kv, Ki, J9, J5, J4, J3, J2, J1, J0, Ku, Ks, Kr, Kq, Ko, Kn, Km, Kl, Kk, Kj, Kh, Kg, Kf, Ke, Kc, Ka, J8, J7, J6, f])
   (try simp only [Fx, FU])) : A := e f ▸ h
end Pe
namespace Pe
open Go Go.RowKit
variable [Tab]
theorem WF.still {w : World} {g : Gh} {S : Ae} (h : WF w g S) {l n : Nat} {o : SObj} {arr : Array Value} {T : TypeId} {fr : Nat × Nat} (hS : S[l]? = some o) (hown : g.own l (g.pl l)) (hG : g.G (g.pl l) = 0) (hh : w.heap[g.pl l]? = some (.cells arr T fr)) :
  WF w { g with G := fun x => if x = g.pl l then n else g.G x } (S.set l .dead) ∧ Evo w g w { g with G := fun x => if x = g.pl l then n else g.G x } := by
 have hlS := (List.getElem?_eq_some_iff.1 hS).1
 have hln : l < g.nid := by rw [h.nid]; exact hlS
 let g' : Gh := { g with G := fun x => if x = g.pl l then n else g.G x }
 have hne : ∀ b, 0 < g.G b → b ≠ g.pl l := fun b h e => by rw [e, hG] at h; exact absurd h (Nat.lt_irrefl 0)
 have hle : Le w g w g' := ⟨fun _ _ _ _ h => h, fun b o v hb _ => by
  show o < (if b = g.pl l then n else g.G b)
  rw [if_neg (hne b (by omega))]; exact hb, Nat.le_refl _, fun _ _ => ⟨rfl, .inl ⟨rfl, rfl, rfl⟩⟩, fun b me c hg hm => ⟨by
  show 0 < (if b = g.pl l then n else g.G b)
  rw [if_neg (hne b hg)]; exact hg, hm⟩⟩
 refine ⟨⟨by rw [List.length_set]; exact h.nid, fun k o hk => ?_, h.disj, h.lt, h.tab.le hle⟩, ⟨hle, rfl, rfl, rfl, Nat.le_refl _, fun _ _ _ => rfl, fun _ _ hk hb _ => ⟨hk, hb⟩, fun b _ hno => if_neg (fun e => hno l hln (by rw [e]; exact hown))⟩⟩
 by_cases hkl : k = l
 ·subst hkl; rw [List.getElem?_set_self hlS] at hk; cases hk; trivial
 ·rw [List.getElem?_set_ne (Ne.symm hkl)] at hk
  have hkn : k < g.nid := by rw [h.nid]; exact (List.getElem?_eq_some_iff.1 hk).1
  refine (h.obj k o hk).keep hle rfl rfl rfl rfl rfl (fun b hb' => ?_) (fun _ _ => rfl)
  exact if_neg (fun e => hkl (h.disj k l b hkn hln hb' (by rw [e]; exact hown)))
theorem WF.kill {w : World} {g : Gh} {S : Ae} (h : WF w g S) (l : Nat) : WF w g (S.set l .dead) := by
 refine ⟨by rw [List.length_set]; exact h.nid, fun k o hk => ?_, h.disj, h.lt, h.tab⟩
 by_cases hkl : k = l
 ·subst hkl
  by_cases hlt : k < S.length
  ·rw [List.getElem?_set_self hlt] at hk; cases hk; trivial
  ·rw [List.getElem?_eq_none (by simp; omega)] at hk; cases hk
 ·rw [List.getElem?_set_ne (Ne.symm hkl)] at hk
  exact h.obj k o hk
theorem Yo {w : World} {g g' : Gh} {es : List AV} {arr : Array Value} {sz b c : Nat} {T : TypeId} {fr : Nat × Nat} (hle : Le w g w g') (hsz : ∀ x ∈ es, x.cells.length = sz) (hh : w.heap[b]? = some (.cells arr T fr)) (hG : es.length * sz ≤ g'.G b)
  (hc : es.length ≤ c) (hm : c ≤ maxLen) (hok : (Ak es).all (AV.o1 0) = true) (h1 : ∀ (j : Nat) v, arr[j]? = some v → j < (Ak es).length → v.oneCell' = true) (hr : ∀ (j : Nat) u v, (Ak es)[j]? = some u → arr[j]? = some v → Rel w g u v) (hl : (Ak es).length ≤ arr.size) :
  Rel w g' (.sl .ro es) (.slice (some ⟨b, 0, none⟩) es.length c) := by
 have hfl := E8 hsz;have hren : RenOk w g w g'.noid id 0 := ⟨hle.noid, fun l hl => absurd hl (Nat.not_lt_zero _)⟩
 refine .sl _ .ro es _ c sz (fun j => arr.getD j undef) hc hm hsz (fun _ => ⟨b, 0, rfl, fun j hj => ⟨by omega, ?_⟩⟩) (fun j hj => ?_) (fun j u hu => ?_) trivial
 ·rw [Nat.zero_add, cell_of_row w b j arr T fr hh]
  have : j < arr.size := by omega
  simp [Array.getD, this]
 ·have : j < arr.size := by omega
  refine h1 j _ ?_ hj
  simp [Array.getD, this]
 ·have hj := (List.getElem?_eq_some_iff.1 hu).1
  have hj' : j < arr.size := by omega
  have hv : arr[j]? = some (arr.getD j undef) := by simp [Array.getD, hj']
  have hk := List.all_eq_true.1 hok u (List.mem_of_getElem? hu);have := (hr j u _ hu hv).r1 hren hk;rwa [Cv hk (fun i hi => absurd hi (Nat.not_lt_zero _))] at this
theorem WF.frz {w : World} {g : Gh} {S : Ae} (h : WF w g S) {l : Nat} {es : List AV} {e : TypeId} {sz : Nat} (hS : S[l]? = some (.row (Ak es) e sz)) (hsz : ∀ x ∈ es, x.cells.length = sz) (hok : (Ak es).all (AV.o1 0) = true) :
  ∃ g', WF w g' (S.set l .dead) ∧ Evo w g w g' ∧ ∀ cv, Rel w g (.wr l es.length none) cv → Rel w g' (.sl .ro es) cv := by
 obtain ⟨hb, ⟨hsz0, hwm⟩, hrow⟩ := h.obj l _ hS;have hfl := E8 hsz;have hn : es.length = g.wm l := Nat.eq_of_mul_eq_mul_right hsz0 (by omega)
 rcases Nat.eq_zero_or_pos es.length with h0 | h0
 ·have : es = [] := List.eq_nil_of_length_eq_zero h0
  subst this;refine ⟨g, h.kill l, Evo.refl w g, fun cv hr => ?_⟩
  cases hr with
  | wr _ _ _ c A hl hb hwn hc hcm h0 hA => exact .sl _ .ro [] A c sz (fun _ => undef) hc hcm (by simp) (fun h => absurd h (Nat.lt_irrefl 0)) (by simp [Ak]) (by simp [Ak]) trivial
 ·rcases hrow with ⟨_, hrow⟩ | ⟨hown, hG, arr, fr, hh, hfr, hcap, hcl, h9, h10⟩
  ·rw [hrow] at hfl
   have := Nat.mul_pos h0 hsz0;simp at hfl; omega
  ·obtain ⟨q1, q2⟩ := h.still (n := es.length * sz) hS hown hG hh
   refine ⟨_, q1, q2, fun cv hr => ?_⟩
   cases hr with
   | wr _ _ _ c A hl hb hwn hc hcm h0' hA =>
    obtain ⟨rfl, hA⟩ : c = g.cap l ∧ (0 < c → A = some ⟨g.pl l, 0, none⟩) := by
     rcases hA with hA | hA
     ·omega
     ·exact hA
    rw [hA (by omega)]
    exact Yo q2.toLe hsz hh (by simp) hc hcm hok h9 h10 hcl
theorem Ay.frz (N0 : Nat) {e : Af} {S : Ae} (d l n : Nat) {cs es : List AV} {ty : TypeId} {sz : Nat} (hd : e d = .wr l n none) (hS : S[l]? = some (.row cs ty sz)) (hcs : cs = Ak es) (hn : n = es.length) (hsz : Ax sz es = true) (hok : cs.all (AV.o1 0) = true) : Ay N0 e S (CU e d (.sl .ro es)) (S.set l .dead) := by
 rintro N w0 g0 a w hN ⟨h1, h2, g, h3, h4, h5⟩
 subst hcs hn;obtain ⟨g', q1, q2, q3⟩ := h3.frz hS (Eg hsz) hok;refine ⟨h1, h2, g', q1, fun t => ?_, h5.trans q2⟩
 by_cases htd : t = d
 ·subst htd
  rw [I1];have ht := h4 t;rw [hd] at ht;exact q3 _ ht
 ·rw [GJ _ htd]
  exact (h4 t).le q2.toLe
theorem TP (v : AV) (l : List AV) : Ak (v :: l) = v.cells ++ Ak l := rfl
theorem Pu {α : Type} (f : α → AV) (h : ∀ a, (f a).cells.all (AV.o1 0) = true) : ∀ l : List α, (Ak (l.map f)).all (AV.o1 0) = true
 | [] => rfl
 | a :: l => by
  rw [List.map_cons, TP, List.all_append, h a, Pu f h l];rfl
theorem TO {α : Type} (f : α → AV) (n : Nat) (h : ∀ a, (f a).cells.length = n) : ∀ l : List α, (Ak (l.map f)).length = l.length * n
 | [] => by simp [Ak]
 | a :: l => by rw [List.map_cons, TP, List.length_append, h a, TO f n h l, List.length_cons, Nat.add_mul]; omega
end Pe
end
section
namespace Pe
open Go Go.RowKit
variable [Tab]
section
variable {P : Program} {pf rf : List FuncId} {ops : Array Oper} {Q : Af → Ae → Prop} {fuel : Nat} {listed : Array Bool} {e : Af} {S : Ae}
abbrev Rw (P : Program) (pf rf : List FuncId) (ops : Array Oper) (Q : Af → Ae → Prop) (fuel : Nat) (listed : Array Bool) (e : Af) (S : Ae) : Prop := Di P (AT P pf rf) .any ops Q fuel listed e S
theorem Ri {o : AO} {K : Af → Ae → Prop} (hg : o.gd = none) (h : Bi P pf rf [o] e S K) : AR P pf rf o.op e S (fun v S' => K (put e o.dst v) S') := by
 rw [Bi] at h;obtain ⟨b, hb, h⟩ := Cr h;rw [hg] at hb;cases hb
 have h := h.1 rfl;have e1 : (fun v S' => Bi P pf rf [] (put e o.dst v) S' K) = fun v S' => K (put e o.dst v) S' := by funext v S'; rw [Bi]
 rw [e1] at h;exact h
theorem LT {o : Oper} (hg : o.guard = none) : BP ops o e = some true := by unfold BP; rw [hg]
theorem Jg (i : Nat) {d : Option Nat} {op : Op} {o : Oper} (hi : ops[i]? = some o) (hd : o.dst = d) (ho : o.op = op) (hg : o.guard = none) (hf : Ln (AT P pf rf) .any ops listed i = true) (hr : (Region.ready .any ops listed).contains i = true)
  (h : Bi P pf rf [⟨d, op, none⟩] e S (Rw P pf rf ops Q fuel (listed.setIfInBounds i true))) : Di P (AT P pf rf) .any ops Q (fuel + 1) listed e S := by
 subst hd ho;obtain ⟨v, S', hx, hK⟩ := LL (Ri rfl h);exact NS hi fuel listed e S S' (Pm hi hf) (by simpa using hr) (.inl ⟨LT hg, hx⟩) hK
theorem YR (hne : (Region.ready .any ops listed).isEmpty = false) (h : ∀ i ∈ Region.ready .any ops listed, ∃ o : Oper, ops[i]? = some o ∧ o.guard = none ∧ Bi P pf rf [⟨o.dst, o.op, none⟩] e S (Rw P pf rf ops Q fuel (listed.setIfInBounds i true))) :
  Di P (AT P pf rf) .any ops Q (fuel + 1) listed e S := by
 refine ⟨fun h0 => (by rw [h0] at hne; cases hne), fun i hi => ?_⟩
 obtain ⟨o, h1, h2, h3⟩ := h i hi;obtain ⟨v, S', hx, hK⟩ := LL (Ri rfl h3);unfold xOp;simp only [h1, LT h2];exact ⟨v, S', hx, hK⟩
end
end Pe
end
section
namespace Pe
open Go Go.RowKit
section
variable {P : Program} [Tab] {pf rf : List FuncId} {N0 : Nat} {Q : AX → Af → Ae → Prop} {e : Af} {S : Ae}
theorem XR (K K' : Af → Ae → Prop) : Cb (Cb Q K) K' = Cb Q K' := by funext x; cases x <;> rfl
theorem F7 (a b c : CC) : AW P pf rf N0 (a.seq (b.seq c)) Q e S = AW P pf rf N0 ((a.seq b).seq c) Q e S := by
 rw [LK, LK, LK, XR]; rfl
theorem Wv {a b : CC} (I : Af → Ae → Prop) (h1 : ∀ Kt : Af → Ae → Prop, (∀ e S, I e S → Kt e S) → AW P pf rf N0 a (Cb Q Kt) e S) (h2 : ∀ e S, I e S → AW P pf rf N0 b Q e S) : AW P pf rf N0 (a.seq b) Q e S := h1 _ h2
end
end Pe
end
section
namespace Pe
open Go Go.RowKit
set_option maxRecDepth 100000
set_option maxHeartbeats 4000000
theorem JS {P : Program} [Tab] {cls : Op → Cls} {ops : Array Oper} {Q : Af → Ae → Prop} (rest : List Oper) : ∀ (l : List Oper) (e : Af) (S : Ae), CG P cls ops (CG P cls ops Q rest) l e S → CG P cls ops Q (l ++ rest) e S
 | [], _, _, h => h
 | o :: l, e, S, h => by
  simp only [List.cons_append, CG] at h ⊢;split at h
  ·obtain ⟨v, S', hx, h⟩ := h
   exact ⟨v, S', hx, JS rest l _ _ h⟩
  ·exact JS rest l _ _ h
  ·exact h
def HW (P : Program) [Tab] (N N0 : Nat) (c : Code) (Q : AX → Af → Ae → Prop) (e : Af) (S : Ae) : Prop :=
 ∀ (w0 : World) (g0 : Gh) (a : Act) (w : World), g0.nid = N0 → AJ N w0 g0 e S a w → c.wpIn (wR none) 0 P (ED N w0 g0 Q) a w
section
variable {P : Program} [Tab] {N N0 : Nat} {Q : AX → Af → Ae → Prop} {e : Af} {S : Ae}
theorem HW.aw (pf rf : List FuncId) {c : Code} (hm : P.follows .mixedOrders = true) (hok : Ew P pf rf N c = true) (h : AW P pf rf N0 (DS c) Q e S) : HW P N N0 c Q e S :=
 fun _ _ _ _ hn hc => Ws none (.inl rfl) hm hn Q e S _ _ hok hc h
theorem HW.seq {x y : Code} (h : HW P N N0 x (Cb Q (HW P N N0 y Q)) e S) : HW P N N0 (.seq x y) Q e S := fun w0 g0 a w hn hc => by
 refine wpIn_seq (Go.wpIn_mono (h w0 g0 a w hn hc) ?_)
 intro ex a' w' hq;cases ex with
 | normal => obtain ⟨e', S', hc', h'⟩ := hq; exact h' w0 g0 a' w' hn hc'
 | exit id => exact hq
 | ret => exact hq
 | _ => exact hq.elim
theorem HW.reg (pf rf : List FuncId) {id : Nat} {ops : Array Oper} (hds : Db N ops = true) (h : CG P (AT P pf rf) ops (Q .norm) ops.toList e S) : HW P N N0 (.region id ops false) Q e S :=
 fun _ _ _ _ _ hc => Mu hds (fun e S _ _ hc hq => ⟨e, S, hc, hq⟩) hc h none
theorem AC.hw {f : FuncId} {fn : Func} {c : Code} {args : List AV} {S' : Ae} {v : AV} (N : Nat) (hf : P.funcs[f]? = some fn) (hb : fn.body = some c) (hname : fn.name ≠ "runtime.NumGoroutine") (hn : args.length ≤ fn.ntmps) (hN : fn.ntmps = N)
  (h : HW P N S.length c (CO P fn.results.toList S.length v S') (Ex args) S) : AC P f args S v S' :=
 AC.of_wp hf hb hname hn fun w g a hg hc => by subst hN; exact h w g a w hg hc
end
section
variable {P : Program} [Tab] {N N0 : Nat} {Q : AX → Af → Ae → Prop} {e : Af} {S : Ae}
theorem HW.weak {c : Code} {e' : Af} {S' : Ae} (hw : Ay N0 e S e' S') (h : HW P N N0 c Q e' S') : HW P N N0 c Q e S := fun w0 g0 a w hn hc => h w0 g0 a w hn (hw N w0 g0 a w hn hc)
theorem HW.cut {x y : Code} (I : Af → Ae → Prop) (h1 : ∀ K : Af → Ae → Prop, (∀ e S, I e S → K e S) → HW P N N0 x (Cb Q K) e S) (h2 : ∀ e S, I e S → HW P N N0 y Q e S) : HW P N N0 (.seq x y) Q e S := HW.seq (h1 _ h2)
theorem HW.raw (pf rf : List FuncId) {id : Nat} {ops : Array Oper} (hm : P.follows .mixedOrders = true) (hds : Db N ops = true) (h : Di P (AT P pf rf) .any ops (Q .norm) ops.size (Array.replicate ops.size false) e S) : HW P N N0 (.region id ops true) Q e S := fun w0 g0 a w hn hc => by
 refine wpIn_region_any hm (GI none (cls := AT P pf rf) hds (fun e S _ _ hc hq => ⟨e, S, hc, hq⟩) _ _ e S a _ (hc.draw _) ?_)
 exact h
end
section
variable {P : Program} [Tab] {pf rf : List FuncId} {ops : Array Oper} {Q : Af → Ae → Prop} {fuel : Nat} {listed : Array Bool} {e : Af} {S : Ae}
abbrev Ze1 (P : Program) [Tab] (pf rf : List FuncId) (ops : Array Oper) (Q : Af → Ae → Prop) (fuel : Nat) (listed : Array Bool) (e : Af) (S : Ae) (i : Nat) : Prop :=
 ∃ o : Oper, ops[i]? = some o ∧ o.guard = none ∧ Bi P pf rf [⟨o.dst, o.op, none⟩] e S (Rw P pf rf ops Q fuel (listed.setIfInBounds i true))
theorem YP {i : Nat} (hr : Region.ready .any ops listed = [i]) (h1 : Ze1 P pf rf ops Q fuel listed e S i) : Di P (AT P pf rf) .any ops Q (fuel + 1) listed e S :=
 YR (by rw [hr]; rfl) (fun k hk => by rw [hr, List.mem_singleton] at hk; rw [hk]; exact h1)
end
section
variable {P : Program} [Tab] {pf rf : List FuncId} {ops : Array Oper} {Q : Af → Ae → Prop} {fuel : Nat} {listed : Array Bool} {e : Af} {S S' : Ae} {v : AV}
theorem Mj {i : Nat} {o : Oper} (d : Option Nat) (op : Op) (hr : Region.ready .any ops listed = [i]) (hi : ops[i]? = some o) (hd : o.dst = d) (ho : o.op = op) (hg : o.guard = none) (h : Bi P pf rf [⟨d, op, none⟩] e S (Rw P pf rf ops Q fuel (listed.setIfInBounds i true))) : Di P (AT P pf rf) .any ops Q (fuel + 1) listed e S := by
 subst hd ho;exact YP hr ⟨o, hi, hg, h⟩
theorem Ml {i : Nat} {o : Oper} (d : Option Nat) (op : Op) (hr : Region.ready .any ops listed = [i]) (hi : ops[i]? = some o) (hd : o.dst = d) (ho : o.op = op) (hg : o.guard = none) (hx : o.op = op → B0 P (AT P pf rf op) o e S v S') (hK : Rw P pf rf ops Q fuel (listed.setIfInBounds i true) (put e d v) S') : Di P (AT P pf rf) .any ops Q (fuel + 1) listed e S :=
 ⟨fun h0 => (by rw [hr] at h0; cases h0), fun k hk => by
  subst hd ho;rw [hr, List.mem_singleton] at hk;subst hk;unfold xOp;simp only [hi, LT hg];exact ⟨v, S', hx rfl, hK⟩⟩
theorem YO (i : Nat) {o : Oper} (d : Option Nat) (op : Op) (hi : ops[i]? = some o) (hd : o.dst = d) (ho : o.op = op) (hg : o.guard = none) (hf : Ln (AT P pf rf) .any ops listed i = true) (hr : (Region.ready .any ops listed).contains i = true) (hx : o.op = op → B0 P (AT P pf rf op) o e S v S') (hK : Rw P pf rf ops Q fuel (listed.setIfInBounds i true) (put e d v) S') : Di P (AT P pf rf) .any ops Q (fuel + 1) listed e S := by
 subst hd ho;exact NS hi fuel listed e S S' (Pm hi hf) (by simpa using hr) (.inl ⟨LT hg, hx rfl⟩) hK
end
section
variable {P : Program} [Tab] {N N0 : Nat} {Q : AX → Af → Ae → Prop} {e : Af} {S : Ae}
theorem HW.block {id : Nat} {c : Code} (h : HW P N N0 c (Ee id Q) e S) : HW P N N0 (.block id c) Q e S := fun w0 g0 a w hn hc => by
 refine wpIn_block (Go.wpIn_mono (h w0 g0 a w hn hc) ?_)
 intro ex a' w' hq;cases ex with
 | normal => exact hq
 | exit i =>
  obtain ⟨e', S', hc', h'⟩ := hq;simp only [Ee] at h';simp only [Exit.inBlock];by_cases hi : i = id
  ·rw [if_pos hi] at h' ⊢; exact ⟨e', S', hc', h'⟩
  ·rw [if_neg hi] at h' ⊢; exact ⟨e', S', hc', h'⟩
 | ret => exact hq
 | _ => exact hq.elim
theorem HW.loop {c : Code} (I : Nat → Af → Ae → Prop) (n : Nat) (e' : Af) (S' : Ae) (hwk : Ay N0 e S e' S') (hI : I n e' S') (h : ∀ n e S, I n e S → HW P N N0 c (Cb Q (Jj N0 I n)) e S) : HW P N N0 (.loop c) Q e S := fun w0 g0 a w hn hc => by
 refine JU (fun n a w => ∃ e S, AJ N w0 g0 e S a w ∧ I n e S) n ⟨e', S', hwk N w0 g0 a w hn hc, hI⟩ ?_
 rintro n a w ⟨e, S, hc, hI⟩
 refine Go.wpIn_mono (h n e S hI w0 g0 a w hn hc) ?_
 intro ex a' w' hq;cases ex with
 | normal =>
  obtain ⟨e1, S1, hc1, n', e2, S2, hlt, hwk', hI'⟩ := hq;exact ⟨n', hlt, e2, S2, hwk' N w0 g0 a' w' hn hc1, hI'⟩
 | exit i => exact hq
 | ret => exact hq
 | _ => exact hq.elim
end
theorem ZcI {P : Program} [Tab] {rs : List ResultVar} {e : Af} {S : Ae} (d l : Nat) {n sz : Nat} {cs es : List AV} {ty : TypeId} (hcs : cs = Ak es) (hn : n = es.length) (hsz : Ax sz es = true) (hok : cs.all (AV.o1 0) = true)
  (h : Cg P rs (CU e d (.sl .ro es)) (S.set l .dead) = some [.sl .ro es]) (hd : e d = .wr l n none := by rfl) (hS : S[l]? = some (.row cs ty sz) := by rfl) : CO P rs 0 (.sl .ro es) [] .ret e S :=
 Na _ _ (Ay.frz 0 d l n hd hS hcs hn hsz hok) [] h ⟨List.nodup_nil, rfl, fun i o hi => by cases hi⟩ rfl rfl rfl
end Pe
end
section
namespace Pe
open Go Go.RowKit
variable [Tab]
section
variable {P : Program} {w : World} {g : Gh} {S : Ae}
theorem Zav {u : AV} {v : Value} (h : Rel w g u v) (hk : u.o1 0 = true) : Rel w g.noid u v := by
 have hren : RenOk w g w g.noid id 0 := ⟨(Le.refl w g).noid, fun l hl => absurd hl (Nat.not_lt_zero _)⟩
 have := h.r1 hren hk;rwa [Cv hk (fun i hi => absurd hi (Nat.not_lt_zero _))] at this
theorem Og {α : Type} (l us : List α) (a j : Nat) (h : a ≤ l.length) : (l.take a ++ us ++ l.drop (a + us.length))[j]? = if j < a then l[j]? else if j < a + us.length then us[j - a]? else l[j]? := by
 have hl : (l.take a).length = a := by rw [List.length_take]; omega
 rw [List.append_assoc];split
 ·rw [List.getElem?_append_left (by omega), List.getElem?_take_of_lt (by assumption)]
 ·rw [List.getElem?_append_right (by omega), hl]
  split
  ·rw [List.getElem?_append_left (by omega)]
  ·rw [List.getElem?_append_right (by omega), List.getElem?_drop]
   congr 1
   omega
theorem WF.rewrite_row (h : WF w g S) {l n' : Nat} {cs cs' : List AV} {cur cur' : Array Value} {e sz : Nat} {fr : Nat × Nat} (hS : S[l]? = some (.row cs e sz)) (hn : g.wm l ≤ n') (hcap0 : g.cap l ≠ 0)
  (hb : w.heap[g.pl l]? = some (.cells cur e fr)) (hroom : n' ≤ g.cap l) (hcs' : cs'.length = n' * sz) (hcur' : cur'.size = cur.size)
  (t1 : ∀ (j : Nat) v, cur'[j]? = some v → j < cs'.length → v.oneCell' = true) (t2 : ∀ (j : Nat) u v, cs'[j]? = some u → cur'[j]? = some v → Rel w g u v) :
  ∃ g', WF (w.setRow (g.pl l) cur') g' (S.set l (.row cs' e sz)) ∧ Evo w g (w.setRow (g.pl l) cur') g' ∧ l < g'.nid ∧ g'.buf l = true ∧ g'.pl l = g.pl l ∧ g'.cap l = g.cap l ∧ g'.wm l = n' := by
 have hlS : l < S.length := (List.getElem?_eq_some_iff.1 hS).1
 have hnid := h.nid;obtain ⟨hbuf, ⟨hsz0, hwm⟩, hrow⟩ := h.obj l _ hS;rcases hrow with ⟨hrow, _⟩ | ⟨hown, hG, cur0, fr0, hb0, hfr0, hcs0, hcl, h9, h10⟩
 ·exact absurd hrow hcap0
 rw [hb] at hb0;cases hb0
 let w' := w.setRow (g.pl l) cur'
 let g' : Gh := { g with wm := fun k => if k = l then n' else g.wm k }
 have hnew : w'.heap[g.pl l]? = some (.cells cur' e fr) := setRow_heap w (g.pl l) cur _ e fr hb;have hle0 := Le.setRow (w := w) hG cur';have hle1 : Le w' g w' g' := ⟨fun _ _ _ _ h => h, fun _ _ _ h _ => h, Nat.le_refl _, fun k hk => ⟨rfl, by
  by_cases hkl : k = l
  ·subst hkl
   by_cases hnn : g.wm k = n'
   ·exact .inl ⟨rfl, by show (if k = k then _ else _) = _; rw [if_pos rfl, hnn], rfl⟩
   ·refine .inr ⟨hbuf, ?_⟩
    show g.wm k < (if k = k then _ else _)
    rw [if_pos rfl]; omega
  ·exact .inl ⟨rfl, if_neg hkl, rfl⟩⟩, fun _ _ _ h h' => ⟨h, h'⟩⟩
 have hle : Le w g w' g' := hle0.trans hle1;refine ⟨g', h.touch hlS hle rfl (fun k hk _ => ⟨rfl, rfl, if_neg hk, rfl, rfl⟩) (fun b hb => .inl hb) (by simp) (fun b _ _ => rfl) (fun b _ hno => setRow_other w _ b _ (fun e => hno (by rw [e]; exact hown))) ?_,
  ⟨hle, rfl, rfl, rfl, by simp, fun b _ hno => setRow_other w _ b _ (fun e => hno l (by omega) (by rw [e]; exact hown)), fun _ _ hk hb _ => ⟨hk, hb⟩, fun b _ _ => rfl⟩, by show l < g.nid; omega, hbuf, rfl, rfl, if_pos rfl⟩
 refine ⟨hbuf, ⟨hsz0, ?_⟩, .inr ⟨hown, hG, _, fr, hnew, hfr0, ?_, ?_, t1, fun j u v hu hv => (t2 j u v hu hv).le hle⟩⟩
 ·show _ = (if l = l then n' else g.wm l) * sz
  rw [if_pos rfl];exact hcs'
 ·show cur'.size = g.cap l * sz
  omega
 ·have : n' * sz ≤ g.cap l * sz := Nat.mul_le_mul_right _ hroom
  omega
theorem Uz {o : Oper} {e : Af} {t el : TypeId} {x : Operand} {lo hi : Option Operand} {l n a b sz : Nat} {ag : Bool} (ho : o.op = .slice t x lo hi none) (hx : ev e x = .wr l n none) (hs : Bk P t = some (el, sz, ag)) (hsz : 0 < sz)
  (ha : Ch (lo.map (ev e)) 0 = some a) (hb : Ch (hi.map (ev e)) n = some b) (h1 : a ≤ b) (h2 : b ≤ n) (T : Ae) : AE P o e T (.wx l (a * sz) (b - a) n) T :=
 Cp fun ρ w g hw hr => by
  rw [ho] at hr;have hrx := hr x (by simp [Op.operands])
  have hlo := LI (w := w) (g := g) (e := e) (ρ := ρ) (x := lo) fun y hy => hr y (by subst hy; simp [Op.operands])
  have hhi := LI (w := w) (g := g) (e := e) (ρ := ρ) (x := hi) fun y hy => hr y (by subst hy; simp [Op.operands])
  rw [hx] at hrx;obtain ⟨hu, hse⟩ := DZ hs;generalize hcx : ρ x = cx at hrx;cases hrx with
  | wr _ _ _ c A hl hbf hwn hc hcm h0 hA =>
   have hbd := PV (P := P) (w := w) (isS := true) (cap := c) ha hb hlo hhi h1 (by omega)
   refine ⟨.slice (if c = a then A else A.map (·.add (a * sz))) (b - a) (c - a), w, g, ?_, hw, ?_, Evo.refl w g⟩
   ·unfold execOp
    simp only [ho, hcx];simp [Instr.sliceAt, Instr.slice, run_underlying hu, hbd, run_sizeOf hse]
   ·refine .wx _ l _ _ n _ _ hl hbf hwn (by omega) (by omega) fun hwm => ?_
    obtain ⟨hcc, hA⟩ : c = g.cap l ∧ (0 < c → A = some ⟨g.pl l, 0, none⟩) := by
     rcases hA with hA | hA
     ·omega
     ·exact hA
    refine ⟨fun hpos => ?_, fun h00 => ?_⟩
    ·rw [if_neg (by omega), hA (by omega)]
     simp [Addr.add_lit]
    ·have ha0 : a = 0 := by
      rcases Nat.mul_eq_zero.1 h00 with h | h
      ·exact h
      ·omega
     subst ha0;refine ⟨by omega, fun hpos => ?_⟩
     rw [if_neg (by omega), hA (by omega)]
     simp [Addr.add_lit]
theorem Xi {u l o n' m sz el : Nat} {cs : List AV} {cy : Value} (hw : WF w g S) (hS : S[l]? = some (.row cs el sz)) (hm : cs.length = m * sz) (ho : o + n' * sz ≤ m * sz) (hy : Rel w g (.wx l o n' m) cy) (hu : ∃ e', P.underlying u = some (.slice e')) :
  ∃ us : List Value, Src P w u cy sz n' us ∧ AB w g ((cs.drop o).take (n' * sz)) us.toArray := by
 obtain ⟨hbuf, ⟨hsz0, hwm⟩, hrow⟩ := hw.obj l _ hS;have hmw : g.wm l = m := Nat.eq_of_mul_eq_mul_right hsz0 (by omega)
 obtain ⟨e', hu⟩ := hu;cases hy with
 | wx _ _ _ _ _ c A hl hb hml hc hcm hx =>
  obtain ⟨hA, _⟩ := hx hmw;rcases Nat.eq_zero_or_pos n' with h0 | h0
  ·subst h0
   refine ⟨[], ⟨by simp [Builtin.lenOf], ⟨_, hu, by simp⟩, ?_, ?_, by simp, by simp⟩, by simp, by simp, by simp⟩
   iterate 2
    ·cases A <;> simp [Builtin.firstCells, loadCells, loadCellsFrom]
  ·have hA := hA h0
   subst hA;have hpos : 0 < n' * sz := Nat.mul_pos h0 hsz0;rcases hrow with ⟨_, hrow⟩ | ⟨hown, hG, cur, fr, hb', hfr, hcs, hcl, h9, h10⟩
   ·rw [hrow] at hm
    simp only [List.length_nil] at hm;omega
   ·have hlen : ((cur.toList.drop o).take (n' * sz)).length = n' * sz := by
     rw [List.length_take, List.length_drop, Array.length_toList]; omega
    have hget : ∀ (j : Nat) v, ((cur.toList.drop o).take (n' * sz))[j]? = some v → j < n' * sz ∧ cur[o + j]? = some v := fun j v hv => by
     have hj := (List.getElem?_eq_some_iff.1 hv).1
     have hj : j < n' * sz := by omega
     refine ⟨hj, ?_⟩
     rw [List.getElem?_take_of_lt hj, List.getElem?_drop] at hv
     simpa using hv
    have hfc : ∀ w' : World, (∀ p, w'.cell? p = w.cell? p) → (Builtin.firstCells sz n' (.slice (some ⟨g.pl l, o, none⟩) n' c)).run P w' = .ok ((cur.toList.drop o).take (n' * sz)).toArray w' := fun w' hw' =>
     run_firstCells_some (P := P) w' sz n' ⟨g.pl l, o, none⟩ n' c _ hlen (fun j v hv => by
      rw [Addr.add_lit, hw', cell_of_row w _ (o + j) cur el fr hb'];exact (hget j v hv).2)
    have hone : ∀ v ∈ (cur.toList.drop o).take (n' * sz), v.oneCell' = true := fun v hv => by
     obtain ⟨j, hj⟩ := List.mem_iff_getElem?.1 hv;obtain ⟨h1, h2⟩ := hget j v hj;exact h9 (o + j) v h2 (by omega)
    refine ⟨_, ⟨by simp [Builtin.lenOf], ⟨_, hu, by simp⟩, hfc w (fun _ => rfl), hfc w.drew (fun _ => rfl), hlen, hone⟩, ?_, fun v hv => hone v (by simpa using hv), fun j x v hx hv => ?_⟩
    ·rw [List.size_toArray, hlen, List.length_take, List.length_drop]
     omega
    ·have hv' := hget j v (by simpa using hv)
     rw [List.getElem?_take_of_lt hv'.1, List.getElem?_drop] at hx
     exact h10 (o + j) x v hx hv'.2
theorem Zdd {o : Oper} {e : Af} {t u el : TypeId} {x y : Operand} {l off n' m sz by_ : Nat} {cs es : List AV} (ho : o.op = .call { callee := .builtin .append, args := #[x, y], argTypes := #[t, u] }) (ht : Cf P t = some (el, sz, by_)) (hu : (Bk P u).isSome = true)
  (hx : ev e x = .sl .full []) (hy : ev e y = .wx l off n' m) (hS : S[l]? = some (.row cs el sz)) (hm : cs.length = m * sz) (hoff : off + n' * sz ≤ m * sz) (hes : Ak es = (cs.drop off).take (n' * sz)) (hn : es.length = n') (hall : Ax sz es = true) (hok : (Ak es).all (AV.o1 0) = true) (hfit : CN n' by_ = true) :
  AE P o e S (.sl (.own S.length) es) (S ++ [.buf n' el sz]) :=
 Cp fun ρ w g hw hr => by
  have hrx := hr x (by rw [ho]; simp [Op.operands, Call.operands])
  have hry := hr y (by rw [ho]; simp [Op.operands, Call.operands])
  rw [hx] at hrx;rw [hy] at hry;obtain ⟨hut, hsz0, i, z, hi, hz, rfl, rfl, hzs⟩ := GB ht;obtain ⟨⟨e', sz', ag⟩, hsu⟩ := Option.isSome_iff_exists.1 hu;obtain ⟨us, hsrc, hus⟩ := Xi (P := P) (u := u) hw hS hm hoff hry ⟨_, (DZ hsu).1⟩;obtain ⟨hf1, hf2⟩ := G4 hfit;have hsz := Eg hall;rw [← hes] at hus;have hus' : AB w g.noid (Ak es) us.toArray := ⟨hus.1, hus.2.1, fun j u v hu hv => Zav (hus.2.2 j u v hu hv) (List.all_eq_true.1 hok u (List.mem_of_getElem? hu))⟩
  generalize hcx : ρ x = cx at hrx;generalize hcy : ρ y = cy at hsrc;have key : ∃ cv w' g', (Builtin.append_ #[t, u] o.type #[cx, cy]).run P w = .ok cv w' ∧ WF w' g' (S ++ [.buf n' el i.size]) ∧ Rel w' g' (.sl (.own S.length) es) cv ∧ Evo w g w' g' := by
   have hx' := hrx;cases hrx with
   | sl _ _ _ A c sz0 cu hc hcm hsz0' hA h1 hr' hm' =>
    have hcn : c = 0 := hm';subst hcn;rcases Nat.eq_zero_or_pos n' with h0 | h0
    ·subst h0
     have hes0 : es = [] := List.eq_nil_of_length_eq_zero hn;subst hes0;have hv0 : us = [] := by
      have := hsrc.size;simp at this
      exact this
     subst hv0;obtain ⟨g', h5, h6, h7, h8, h9⟩ := hw.reserve 0 el i.size;refine ⟨_, w, g', LB hut hi hsrc hc, h5, ?_, h6⟩
     have hr' := hx'.le h6.toLe;cases hr' with
     | sl _ _ _ _ _ sz0 cu hc hcm hsz hA h1 hr hm =>
      refine .sl _ _ [] A 0 sz0 cu hc hcm hsz hA h1 hr ⟨?_, ?_, ?_, .inr (.inl rfl)⟩
      ·rw [h7, ← hw.nid]; omega
      ·rw [← hw.nid]; exact h8
      ·rw [← hw.nid, h9]; exact Nat.le_refl _
    ·subst hn
     have hrun := JI (ty := o.type) hut hi hz hsrc (base := A) (n := 0) (c := 0) (olds := []) (by
      cases A with
      | none => simp [Builtin.firstCells]
      | some a => simp [Builtin.firstCells, loadCells, loadCellsFrom]) (by omega) (by omega) (growslice_fits (by omega) (by rw [Nat.zero_add]; exact hf1))
     rw [Nat.zero_add] at hrun;have hge := grownCap_ge w es.length 0 el;have hcm' : grownCap w es.length 0 el ≤ maxLen := grownCap_le_maxLen w _ 0 el (by simp only [maxLen]; omega)
     have hvl := hsrc.size;obtain ⟨g', h5, h6, h7⟩ := (hw.draw (w.drawn + 1)).new_buf (es := es) (cur := ([] : List Value).toArray ++ us.toArray ++ Builtin.zeroCells z.cells (grownCap w es.length 0 el - es.length)) (e := el) (cap := grownCap w es.length 0 el) (fr := (0, 0)) hsz0 hsz hge hcm' (by
       simp only [Array.size_append, List.size_toArray, List.length_nil, IX _ _ _ hzs, hvl, Nat.zero_add, ← Nat.add_mul];congr 1
       omega) (.inl (by simp)) us ⟨hus'.1, hus'.2.1, fun j u v hu hv => (hus'.2.2 j u v hu hv).le (Evo.draw w g _).toLe.noid⟩ (by
       simp only [Array.toList_append, List.append_assoc, List.nil_append];rw [List.take_left])
     exact ⟨_, _, g', hrun, h5, h7, (Evo.draw w g _).trans h6⟩
  obtain ⟨cv, w', g', h1, h2, h3, h4⟩ := key;refine ⟨cv, w', g', ?_, h2, h3, h4⟩
  unfold execOp;simp only [ho];show Sem.run P (do let d ← resolve ρ _ o.type; invoke d.target d.args) w = _
  simp only [resolve, Sem.run_bind, Sem.run_pure, Result.andThen_ok, invoke, builtin, List.map_toArray, List.map_cons, List.map_nil, hcx, hcy, h1]
theorem Zdh {o : Oper} {e : Af} {t u el : TypeId} {x y : Operand} {l k m sz by_ : Nat} {cs ys : List AV} (ho : o.op = .call { callee := .builtin .append, args := #[x, y], argTypes := #[t, u] }) (ht : Cf P t = some (el, sz, by_))
  (hx : ev e x = .wx l 0 k m) (hs : EF P u (ev e y) = some ys) (hall : Ax sz ys = true) (hS : S[l]? = some (.row cs el sz)) (hm : cs.length = m * sz) (hk : k + ys.length ≤ m) (h0 : 0 < ys.length) :
  AE P o e S (.wx l 0 (k + ys.length) m) (S.set l (.row (Bs cs (k * sz) (Ak ys)) el sz)) :=
 Cp fun ρ w g hw hr => by
  have hrx := hr x (by rw [ho]; simp [Op.operands, Call.operands])
  have hry := hr y (by rw [ho]; simp [Op.operands, Call.operands])
  rw [hx] at hrx;obtain ⟨hut, hsz0, i, z, hi, hz, rfl, rfl, hzs⟩ := GB ht;obtain ⟨us, hsrc, hus⟩ := I8 hs hry hall;have hus := hus.ofNoid;have hfy := E8 (Eg hall);obtain ⟨hbuf, ⟨_, hwm⟩, hrow⟩ := hw.obj l _ hS;have hmw : g.wm l = m := Nat.eq_of_mul_eq_mul_right hsz0 (by omega)
  have hmul : (k + ys.length) * i.size = k * i.size + ys.length * i.size := Nat.add_mul _ _ _;have hle : (k + ys.length) * i.size ≤ m * i.size := Nat.mul_le_mul_right _ hk;have hul := hsrc.size;generalize hcx : ρ x = cx at hrx;have key : ∃ cv w' g', (Builtin.append_ #[t, u] o.type #[cx, ρ y]).run P w = .ok cv w' ∧ WF w' g' (S.set l (.row (Bs cs (k * i.size) (Ak ys)) el i.size)) ∧ Rel w' g' (.wx l 0 (k + ys.length) m) cv ∧ Evo w g w' g' := by
   cases hrx with
   | wx _ _ _ _ _ c A hl hb hml hc hcm hxx =>
    obtain ⟨hA0, hA1⟩ := hxx hmw;obtain ⟨rfl, hA⟩ := hA1 rfl;rcases hrow with ⟨_, hrow⟩ | ⟨hown, hG, cur, fr, hb', hfr, hcs, hcl, h9, h10⟩
    ·subst hrow
     simp only [List.length_nil] at hm
     have : 0 < (k + ys.length) * i.size := Nat.mul_pos (by omega) hsz0
     omega
    ·have hmc : m ≤ g.cap l := by
      refine Nat.le_of_mul_le_mul_right ?_ hsz0
      omega
     have hA := hA (by omega)
     subst hA;have hrun := NB (ty := o.type) hut hi hsrc hb' (.inl hfr) (n := k) (by omega : k + ys.length ≤ g.cap l) (by rw [hul]; omega)
     have hal : (Bs cs (k * i.size) (Ak ys)).length = m * i.size := by
      unfold Bs;simp only [List.length_append, List.length_take, List.length_drop];omega
     have hcurl : cur.toList.length = g.cap l * i.size := by simpa using hcs
     have hcap : m * i.size ≤ g.cap l * i.size := Nat.mul_le_mul_right _ hmc;have hat : ∀ (j : Nat) v, (cur.toList.take (k * i.size) ++ us ++ cur.toList.drop (k * i.size + us.length)).toArray[j]? = some v → ((j < k * i.size ∨ k * i.size + us.length ≤ j) ∧ cur[j]? = some v) ∨ (k * i.size ≤ j ∧ j < k * i.size + us.length ∧ us[j - k * i.size]? = some v) := by
      intro j v hv;simp only [List.getElem?_toArray] at hv
      rw [Og _ _ _ _ (by omega)] at hv
      split at hv
      ·exact .inl ⟨.inl (by assumption), by simpa using hv⟩
      ·split at hv
       ·exact .inr ⟨by omega, by assumption, hv⟩
       ·exact .inl ⟨.inr (by omega), by simpa using hv⟩
     obtain ⟨g', h5, h6, h7, h8, h11, h12, h13⟩ := hw.rewrite_row (n' := m) (cs' := Bs cs (k * i.size) (Ak ys)) (cur' := (cur.toList.take (k * i.size) ++ us ++ cur.toList.drop (k * i.size + us.length)).toArray) hS (by omega) (by omega) hb' hmc hal (by
       simp only [List.size_toArray, List.length_append, List.length_take, List.length_drop, Array.length_toList];rw [Array.length_toList] at hcurl;omega) (fun j v hv hj => by
       rcases hat j v hv with ⟨_, h2⟩ | ⟨_, _, h2⟩
       ·exact h9 j v h2 (by omega)
       ·exact hus.2.1 v (by simpa using List.mem_of_getElem? h2)) (fun j u' v hu hv => by
       unfold Bs at hu;rw [Og _ _ _ _ (by omega)] at hu
       rcases hat j v hv with ⟨h1, h2⟩ | ⟨h1, h1', h2⟩
       ·refine h10 j u' v ?_ h2
        rcases h1 with h1 | h1
        ·rw [if_pos h1] at hu; exact hu
        ·rw [if_neg (by omega), if_neg (by omega)] at hu; exact hu
       ·rw [if_neg (by omega), if_pos (by omega)] at hu
        exact hus.2.2 _ u' v hu (by simpa using h2))
     exact ⟨_, _, g', hrun, h5, .wx _ l 0 _ m _ _ h7 h8 (by omega) (by omega) hcm (fun _ => ⟨fun _ => by rw [h11], fun _ => ⟨h12.symm, fun _ => by rw [h11]⟩⟩), h6⟩
  obtain ⟨cv, w', g', h1, h2, h3, h4⟩ := key;refine ⟨cv, w', g', ?_, h2, h3, h4⟩
  unfold execOp;simp only [ho];show Sem.run P (do let d ← resolve ρ _ o.type; invoke d.target d.args) w = _
  simp only [resolve, Sem.run_bind, Sem.run_pure, Result.andThen_ok, invoke, builtin, List.map_toArray, List.map_cons, List.map_nil, hcx, h1]
theorem UC {o : Oper} {e : Af} {t u el : TypeId} {x y : Operand} {l k m sz by_ : Nat} {cs ys : List AV} (ho : o.op = .call { callee := .builtin .append, args := #[x, y], argTypes := #[t, u] }) (ht : Cf P t = some (el, sz, by_))
  (hx : ev e x = .wx l 0 k m) (hs : EF P u (ev e y) = some ys) (hall : Ax sz ys = true) (hS : S[l]? = some (.row cs el sz)) (hm : cs.length = m * sz) (hkm : k ≤ m) (hk : m < k + ys.length) (hfit : CN (k + ys.length) by_ = true) :
  AE P o e S (.wr l (k + ys.length) none) (S.set l (.row (cs.take (k * sz) ++ Ak ys) el sz)) :=
 Cp fun ρ w g hw hr => by
  have hrx := hr x (by rw [ho]; simp [Op.operands, Call.operands])
  have hry := hr y (by rw [ho]; simp [Op.operands, Call.operands])
  rw [hx] at hrx;obtain ⟨hut, hsz0, i, z, hi, hz, rfl, rfl, hzs⟩ := GB ht;obtain ⟨us, hsrc, hus⟩ := I8 hs hry hall;have hus := hus.ofNoid;have hfy := E8 (Eg hall);obtain ⟨hf1, hf2⟩ := G4 hfit;obtain ⟨hbuf, ⟨_, hwm⟩, hrow⟩ := hw.obj l _ hS;have hmw : g.wm l = m := Nat.eq_of_mul_eq_mul_right hsz0 (by omega)
  have hmul : (k + ys.length) * i.size = k * i.size + ys.length * i.size := Nat.add_mul _ _ _;have hle : k * i.size ≤ m * i.size := Nat.mul_le_mul_right _ hkm;have hul := hsrc.size;have hcl' : (cs.take (k * i.size) ++ Ak ys).length = (k + ys.length) * i.size := by
   rw [List.length_append, List.length_take, hfy];omega
  generalize hcx : ρ x = cx at hrx;have key : ∃ cv w' g', (Builtin.append_ #[t, u] o.type #[cx, ρ y]).run P w = .ok cv w' ∧ WF w' g' (S.set l (.row (cs.take (k * i.size) ++ Ak ys) el i.size)) ∧ Rel w' g' (.wr l (k + ys.length) none) cv ∧ Evo w g w' g' := by
   cases hrx with
   | wx _ _ _ _ _ c A hl hb hml hc hcm hxx =>
    obtain ⟨hA0, hA1⟩ := hxx hmw;obtain ⟨rfl, hA⟩ := hA1 rfl;by_cases hroom : k + ys.length ≤ g.cap l
    ·have hA := hA (by omega)
     subst hA;rcases hrow with ⟨hrow, _⟩ | ⟨hown, hG, cur, fr, hb', hfr, hcs, hcl, h9, h10⟩
     ·omega
     ·have hlr : (k + ys.length) * i.size ≤ g.cap l * i.size := Nat.mul_le_mul_right _ hroom
      have hcurl : cur.toList.length = g.cap l * i.size := by simpa using hcs
      have hrun := NB (ty := o.type) hut hi hsrc hb' (.inl hfr) (n := k) hroom (by rw [hul]; omega)
      have hat : ∀ (j : Nat) v, (cur.toList.take (k * i.size) ++ us ++ cur.toList.drop (k * i.size + us.length)).toArray[j]? = some v → j < (k + ys.length) * i.size → (j < k * i.size ∧ cur[j]? = some v) ∨ (k * i.size ≤ j ∧ us[j - k * i.size]? = some v) := by
       intro j v hv hj;simp only [List.getElem?_toArray] at hv
       rw [Og _ _ _ _ (by omega)] at hv
       split at hv
       ·exact .inl ⟨by assumption, by simpa using hv⟩
       ·rw [if_pos (by omega)] at hv
        exact .inr ⟨by omega, hv⟩
      obtain ⟨g', h5, h6, h7, h8, h11, h12, h13⟩ := hw.rewrite_row (n' := k + ys.length) (cs' := cs.take (k * i.size) ++ Ak ys) (cur' := (cur.toList.take (k * i.size) ++ us ++ cur.toList.drop (k * i.size + us.length)).toArray) hS (by omega) (by omega) hb' hroom hcl' (by
        simp only [List.size_toArray, List.length_append, List.length_take, List.length_drop, Array.length_toList];rw [Array.length_toList] at hcurl;omega) (fun j v hv hj => by
        rcases hat j v hv (by omega) with ⟨h1, h2⟩ | ⟨_, h2⟩
        ·exact h9 j v h2 (by omega)
        ·exact hus.2.1 v (by simpa using List.mem_of_getElem? h2)) (fun j u' v hu hv => by
        have hj := (List.getElem?_eq_some_iff.1 hu).1
        have htl : (cs.take (k * i.size)).length = k * i.size := by rw [List.length_take]; omega
        rcases hat j v hv (by omega) with ⟨h1, h2⟩ | ⟨h1, h2⟩
        ·rw [List.getElem?_append_left (by omega), List.getElem?_take_of_lt h1] at hu
         exact h10 j u' v hu h2
        ·rw [List.getElem?_append_right (by omega), htl] at hu
         exact hus.2.2 _ u' v hu (by simpa using h2))
      exact ⟨_, _, g', hrun, h5, .wr _ l _ _ _ h7 h8 (by omega) (by omega) hcm (fun _ => ⟨_, _, rfl⟩) (.inr ⟨h12.symm, fun _ => by rw [h11]⟩), h6⟩
    ·obtain ⟨olds, ho1, ho2, ho3⟩ : ∃ olds : List Value, (∀ w' : World, (∀ p, w'.cell? p = w.cell? p) → (Builtin.firstCells i.size k (.slice A k (g.cap l))).run P w' = .ok olds.toArray w') ∧ AB w g (cs.take (k * i.size)) olds.toArray ∧ olds.length = k * i.size := by
      rcases Nat.eq_zero_or_pos k with hn0 | hn0
      ·subst hn0
       refine ⟨[], fun w' _ => ?_, ?_, by simp⟩
       ·cases A with
        | none => simp [Builtin.firstCells]
        | some a => simp [Builtin.firstCells, loadCells, loadCellsFrom]
       ·rw [Nat.zero_mul, List.take_zero]
        exact ⟨rfl, by simp, by simp⟩
      ·have hA := hA0 hn0
       subst hA;have hpos : 0 < k * i.size := Nat.mul_pos hn0 hsz0;rcases hrow with ⟨_, hrow⟩ | ⟨hown, hG, cur, fr, hb', hfr, hcs, hcl, h9, h10⟩
       ·subst hrow
        simp only [List.length_nil] at hm;omega
       ·have hlen : (cur.toList.take (k * i.size)).length = k * i.size := by rw [List.length_take, Array.length_toList]; omega
        have hget : ∀ (j : Nat) v, (cur.toList.take (k * i.size))[j]? = some v → j < k * i.size ∧ cur[j]? = some v := fun j v hv => by
         have hj := (List.getElem?_eq_some_iff.1 hv).1
         rw [List.getElem?_take_of_lt (by omega)] at hv
         exact ⟨by omega, by simpa using hv⟩
        refine ⟨cur.toList.take (k * i.size), fun w' hw' => ?_, ⟨by rw [List.size_toArray, hlen, List.length_take]; omega, fun v hv => ?_, fun j u v hu hv => ?_⟩, hlen⟩
        ·exact run_firstCells_some (P := P) w' i.size k ⟨g.pl l, 0, none⟩ k (g.cap l) (cur.toList.take (k * i.size)) hlen (fun j v hv => by
          rw [Addr.add_lit, hw', Nat.zero_add, cell_of_row w _ j cur el fr hb'];exact (hget j v hv).2)
        ·obtain ⟨j, hj⟩ := List.mem_iff_getElem?.1 hv
         have := hget j v (by simpa using hj)
         exact h9 j v this.2 (by omega)
        ·have hv' := hget j v (by simpa using hv)
         rw [List.getElem?_take_of_lt hv'.1] at hu
         exact h10 j u v hu hv'.2
     have hrun := JI (ty := o.type) hut hi hz hsrc (ho1 w.drew (fun _ => rfl)) (by omega) (by omega) (growslice_fits (by omega) hf1)
     have hge := grownCap_ge w (k + ys.length) (g.cap l) el;have hcm' : grownCap w (k + ys.length) (g.cap l) el ≤ maxLen := grownCap_le_maxLen w _ (g.cap l) el (by simp only [maxLen]; omega)
     obtain ⟨g', h5, h6, h7⟩ := (hw.draw (w.drawn + 1)).regrow_row (n := k + ys.length) (cs' := cs.take (k * i.size) ++ Ak ys) (cur := olds.toArray ++ us.toArray ++ Builtin.zeroCells z.cells (grownCap w (k + ys.length) (g.cap l) el - (k + ys.length))) (cap := grownCap w (k + ys.length) (g.cap l) el) (fr := (0, 0)) hS (by omega) hcl' hge hcm' (by
       simp only [Array.size_append, List.size_toArray, IX _ _ _ hzs, ho3, hul, ← Nat.add_mul];congr 1
       omega) (by simp) (olds ++ us) ((U4 ho2 hus).le (Evo.draw w g _).toLe) (by
       simp only [Array.toList_append, List.append_assoc];rw [← List.append_assoc, List.take_left])
     exact ⟨_, _, g', hrun, h5, h7, (Evo.draw w g _).trans h6⟩
  obtain ⟨cv, w', g', h1, h2, h3, h4⟩ := key;refine ⟨cv, w', g', ?_, h2, h3, h4⟩
  unfold execOp;simp only [ho];show Sem.run P (do let d ← resolve ρ _ o.type; invoke d.target d.args) w = _
  simp only [resolve, Sem.run_bind, Sem.run_pure, Result.andThen_ok, invoke, builtin, List.map_toArray, List.map_cons, List.map_nil, hcx, h1]
theorem Ay.reserveRowT (N0 : Nat) {e : Af} {S : Ae} (d : Nat) (hd : e d = .sl .full []) (ty : TypeId) {sz : Nat} (hsz : 0 < sz) : Ay N0 e S (CU e d (.wr S.length 0 none)) (S ++ [.row [] ty sz]) := by
 rintro N w0 g0 a w hn ⟨h1, h2, g, h3, h4, h5⟩
 obtain ⟨g', h6, h7, h8⟩ := h3.reserve_row ty hsz;refine ⟨h1, h2, g', h6, fun t => ?_, h5.trans h7⟩
 by_cases ht : t = d
 ·subst ht
  rw [I1];have hr := h4 t;rw [hd] at hr;generalize a.tmps.getD t undef = cv at hr;cases hr with
  | sl _ _ _ A c sz cu hc hcm hsz hA ho hr hm =>
   obtain rfl : c = 0 := hm;exact h8 A
 ·rw [GJ _ ht]
  exact (h4 t).le h7.toLe
end
end Pe
end
end Go.Proofs.YtiidnoejnphocaaGreatDoor
