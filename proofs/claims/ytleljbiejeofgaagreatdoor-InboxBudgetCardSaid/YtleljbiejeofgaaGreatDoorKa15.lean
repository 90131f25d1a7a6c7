/- Several texts in one, without what this claim does not use (tools/shake.py). -/
import Derived.Test.YtleljbiejeofgaaGreatDoorKa14
import Derived.KernelRfl
import Derived.Shelf.Spec.SlicesGrow
set_option linter.unusedSectionVars false
set_option linter.unusedVariables false
set_option linter.unusedSimpArgs false
section
namespace Go.Proofs.YtleljbiejeofgaaGreatDoor.Pe
open Go Go.RowKit
variable [Tab] {P : Program}
theorem AYB.enter4 {b D : Nat} {fn : FuncId} {es args : List AV} {ps : Array Tmp} {asn bdy : Code} {S S' : Store} (pf rf : List FuncId) (sp : List (Nat × (List Nat × List Nat × List Nat))) (ord : List (Nat × List Nat)) (l : Nat) (hl : S[l]? = some (.loop b D fn es ps asn bdy .ready)) (hlen : args.length = ps.size) (hps : ∀ p ∈ ps.toList, p < es.length)
  (hm : P.follows .mixedOrders = true) (hoa : codeOk P pf rf es.length asn = true) (hob : codeOk4 P pf rf es.length sp ord bdy = true) (hra : noRF asn = true)
  (h : AW P pf rf S.length (eraseC asn) (asnQ l (.loop b D fn es ps asn bdy) (AX4 P pf rf S.length (eraseC4 sp ord bdy) (bdyQ S.length l (.loop b D fn es ps asn bdy) S'))) (putE (argEnv es) ps.toList args) S) : AYB P b args S (.bo true) S' :=
 AYB.of_wp pf rf l hl hlen hps hm hoa hra _ (fun w0 g0 e T a w hn hc hb => AW_ok4 hm hn _ _ _ _ _ _ hob hc hb) h
theorem Weak.reserveN [Tab] (N0 : Nat) {e : Env} {S : Store} (l i : Nat) {cs es : List AV} (hS : S[l]? = some (.cells cs)) (hi : cs[i]? = some (.sl .full es)) (ty : TypeId) (sz : Nat) : Weak N0 e S e (S.set l (.cells (cs.set i (.sl (.own S.length) es))) ++ [.buf es.length ty sz]) := by
 rintro N w0 g0 a w hn ⟨h1, h2, g, h3, h4, h5⟩
 obtain ⟨g', h6, h7, h8, h9, h10⟩ := h3.reserve es.length ty sz
 have hlS := (List.getElem?_eq_some_iff.1 hS).1
 have hic := (List.getElem?_eq_some_iff.1 hi).1
 have hn3 := h3.nid
 have hn6 := h6.nid
 rw [List.length_append, List.length_singleton] at hn6
 refine ⟨h1, h2, g', ⟨by rw [List.length_append, List.length_set, List.length_singleton]; exact hn6, fun k o hk => ?_, h6.disj, h6.lt, h6.tab⟩, fun t => (h4 t).le h7.toLe, h5.trans h7⟩
 by_cases hkl : k = l
 ·subst hkl
  rw [List.getElem?_append_left (by rw [List.length_set]; exact hlS), List.getElem?_set_self hlS] at hk
  cases hk
  obtain ⟨k1, k2, k3, arr, T, fr, k4, k5, k6, k7, k8⟩ := h6.obj k (.cells cs) (get_app hS _)
  refine ⟨k1, k2, k3, arr, T, fr, k4, k5, by rw [List.length_set]; exact k6, k7, fun j u v hu hv => ?_⟩
  by_cases hj : j = i
  ·subst hj
   rw [List.getElem?_set_self hic] at hu
   cases hu
   refine (k8 j _ v hi hv).own_full (by omega) ?_ ?_
   ·rw [← hn3]; exact h9
   ·rw [← hn3]; exact h10
  ·rw [List.getElem?_set_ne (Ne.symm hj)] at hu
   exact k8 j u v hu hv
 ·refine h6.obj k o ?_
  by_cases hkS : k < S.length
  ·rw [List.getElem?_append_left (by rw [List.length_set]; exact hkS), List.getElem?_set_ne (Ne.symm hkl)] at hk
   rw [List.getElem?_append_left hkS]
   exact hk
  ·rw [List.getElem?_append_right (by rw [List.length_set]; omega), List.length_set] at hk
   rw [List.getElem?_append_right (by omega)]
   exact hk
def Keep (E e : Env) : Prop := ∀ t, E t = e t ∨ E t = .junk
theorem Keep.nil (e : Env) : Keep (fun _ => .junk) e := fun _ => .inr rfl
theorem Keep.cons {E e : Env} (h : Keep E e) (t : Nat) (v : AV) (hv : e t = v) : Keep (upd E t v) e := fun u => by
 unfold upd
 by_cases hu : u = t
 ·rw [if_pos hu, hu]; exact .inl hv.symm
 ·rw [if_neg hu]; exact h u
theorem Weak.keep (N0 : Nat) {E e : Env} {S : Store} (h : Keep E e) : Weak N0 e S E S := by
 rintro N w0 g0 a w hn ⟨h1, h2, g, h3, h4, h5⟩
 refine ⟨h1, h2, g, h3, fun t => ?_, h5⟩
 rcases h t with e1 | e1 <;> rw [e1]
 ·exact h4 t
 ·exact .junk _ _
theorem Weak.trans2 {N0 : Nat} {e e1 e2 : Env} {S S1 S2 : Store} (h : Weak N0 e S e1 S1) (h' : Weak N0 e1 S1 e2 S2) : Weak N0 e S e2 S2 := fun N w0 g0 a w hn hc => h' N w0 g0 a w hn (h N w0 g0 a w hn hc)
theorem ARF_mk {N : Nat} {g : Operand} {ps : Array Tmp} {asn bdy : Code} {K : Env → Store → Prop} {e : Env} {S : Store} {f : FuncId} {fa ca : List AV} (hg : ev e g = .fn (.func f) fa ca) (v : AV) (S' U : Store) (hl : S'.length = S.length)
  (hac : ∀ b D fn, AC P f (fa ++ [.fn (.yield b) [] []] ++ ca) (S ++ [.loop b D fn (envL N e) ps asn bdy .ready]) v (S' ++ .loop b D fn (envL N e) ps asn bdy .ready :: U)) (hK : K e (S' ++ .dead :: U)) : ARF P N g ps asn bdy K e S := by
 unfold ARF
 rw [hg]
 exact ⟨v, S', U, hl, hac, hK⟩
end Go.Proofs.YtleljbiejeofgaaGreatDoor.Pe
end
section
namespace Go.Proofs.YtleljbiejeofgaaGreatDoor.Pe
open Go Go.RowKit Co Dm Wl
set_option maxRecDepth 100000
set_option maxHeartbeats 4000000
theorem crc_c (l : By) (h : l.length ≤ 9223372036854775807) : AC Tryz.prog 189 [.st l] [] (.it .u32 ((Sm.crc l).toNat : Int)) [] := by
 refine AC.ofBelow (by kernel_rfl) fun w g cargs ht hargs => ?_
 rw [lrel_st hargs]
 refine (crc_any ⟨l.toArray⟩ w (by simp [ByteArray.size]; omega)).mono ?_
 rintro r w' ⟨rfl, rfl⟩
 refine ⟨_, rfl, fun g' => ?_, Below.refl _ _⟩
 exact .it g' _ _
theorem shr32 (n k : Nat) (hk : k < 32) : aShr .u32 (n : Int) (k : Int) = some (.it .u32 ((n / 2 ^ k : Nat) : Int)) := by
 unfold aShr
 rw [if_pos (by omega)]
 simp only [Int.toNat_natCast, show IntKind.u32.bits = 32 from rfl, Nat.min_eq_left (Nat.le_of_lt hk)]
 congr 2
 rw [Int.fdiv_eq_ediv_of_nonneg _ (by exact_mod_cast Nat.zero_le _)]
 norm_cast
theorem wrapb (n : Nat) : IntKind.u8.wrap (n : Int) = ((UInt8.ofNat (n % 256)).toNat : Int) := by
 rw [ofNat8 (by omega)]
 unfold IntKind.wrap
 simp [IntKind.bits, IntKind.signed]
theorem checksum_c (s : By) (h : s.length ≤ 9223372036854775807) : AC Tryz.prog 146 [.st s] [] (.st (ck s)) [] := by
 have e0 := wrapb (Sm.crc s).toNat
 have e1 := wrapb ((Sm.crc s).toNat / 256)
 have e2 := wrapb ((Sm.crc s).toNat / 65536)
 have e3 := wrapb ((Sm.crc s).toNat / 16777216)
 have g1 : aShr .u32 ((Sm.crc s).toNat : Int) 8 = _ := shr32 _ 8 (by omega)
 have g2 : aShr .u32 ((Sm.crc s).toNat : Int) 16 = _ := shr32 _ 16 (by omega)
 have g3 : aShr .u32 ((Sm.crc s).toNat : Int) 24 = _ := shr32 _ 24 (by omega)
 simp only [Nat.reducePow] at g1 g2 g3
 have hk : ck s = [UInt8.ofNat ((Sm.crc s).toNat % 256), UInt8.ofNat ((Sm.crc s).toNat / 256 % 256), UInt8.ofNat ((Sm.crc s).toNat / 65536 % 256), UInt8.ofNat ((Sm.crc s).toNat / 16777216 % 256)] := rfl
 rw [hk]
 have hc := crc_c s h
 clear hk
 generalize (Sm.crc s).toNat = n at *
 generalize UInt8.ofNat (n % 256) = b0 at *
 generalize UInt8.ofNat (n / 256 % 256) = b1 at *
 generalize UInt8.ofNat (n / 65536 % 256) = b2 at *
 generalize UInt8.ofNat (n / 16777216 % 256) = b3 at *
 refine AC.enter [189] [] Tryz.func146 rfl (by decide) (by decide) (Nat.le_of_ble_eq_true rfl) (by kernel_rfl) ?_; refine zev ?_
 refine run ?_
 refine cp hc ?_
 have hb : bytesOf [AV.it .u8 (b0.toNat : Int), .it .u8 (b1.toNat : Int), .it .u8 (b2.toNat : Int), .it .u8 (b3.toNat : Int)] = some [b0, b1, b2, b3] := bytesOf_map [b0, b1, b2, b3]
 refine runf (an @e0 (an @e1 (an @e2 (an @e3 (an @g1 (an @g2 (an @g3 @hb))))))) ?_
 exact er0
theorem record_c (s : By) (h : s.length ≤ 140737488355328) : AC Tryz.prog 159 [.st s] [] (.st (rec1 s)) [] := by
 refine AC.enter [75, 146] [] Tryz.func159 rfl (by decide) (by decide) (Nat.le_of_ble_eq_true rfl) (by kernel_rfl) ?_; refine zev ?_
 have hl := numI_le (s.length : Int) (by omega)
 refine run ?_
 refine cp (num_c s.length (by omega) (by omega)) ?_
 rw [numI_nat] at *
 refine run ?_
 refine cp (checksum_c s (by omega)) ?_
 have hc := ck_len s
 refine run ?_
 exact er0
theorem records_c (s : By) : AC Tryz.prog 97 [.st s] [] (.fn (.func 143) [] [.ptr 0 0]) [.cells [.st s]] := by
 refine AC.enter [] [] Tryz.func97 rfl (by decide) (by decide) (Nat.le_of_ble_eq_true rfl) (by kernel_rfl) ?_; refine zev ?_
 refine run ?_
 exact ends_ret [0] (by rfl) (subOk_one 0 (by rfl) (by rfl)) (by rfl) (by rfl) (by rfl)
end Go.Proofs.YtleljbiejeofgaaGreatDoor.Pe
end
section
namespace Go.Proofs.YtleljbiejeofgaaGreatDoor.Pe
open Go Go.RowKit Co Dm Wl
set_option maxRecDepth 100000
set_option maxHeartbeats 4000000
theorem sren_idn {n : Nat} {ρ : Nat → Nat} {o : SObj} (h : o.ok n = true) (hρ : ∀ i, i < n → ρ i = i) : o.ren ρ = o := by
 cases o with
 | cells cs =>
  have : cs.map (AV.r1 ρ) = cs := map_id_of (p := AV.o1 n) h fun v hv => by
   have := ren_id (ρ := ρ) (v := .agg [v]) (n := n) (by simpa [AV.ok, AV.o2] using hv) hρ
   simpa [AV.ren, AV.r2] using this
  show SObj.cells _ = _
  rw [this]
 | row cs e sz =>
  have : cs.map (AV.r1 ρ) = cs := map_id_of (p := AV.o1 n) h fun v hv => by
   have := ren_id (ρ := ρ) (v := .agg [v]) (n := n) (by simpa [AV.ok, AV.o2] using hv) hρ
   simpa [AV.ren, AV.r2] using this
  show SObj.row _ _ _ = _
  rw [this]
 | map es =>
  have h := List.all_eq_true.1 h
  show SObj.map _ = SObj.map es
  congr 1
  rw [List.map_congr_left (g := id) fun p hp => ?_, List.map_id]
  have := h p hp
  simp only [Bool.and_eq_true] at this
  have h1 := ren_id (ρ := ρ) (v := .agg [p.1]) (n := n) (by simpa [AV.ok, AV.o2] using this.1) hρ
  have h2 := ren_id (ρ := ρ) (v := .tup [p.2]) (n := n) (by simpa [AV.ok] using this.2) hρ
  have h1 : p.1.r1 ρ = p.1 := by simpa [AV.ren, AV.r2] using h1
  have h2 : p.2.r2 ρ = p.2 := by
   have h2 : AV.tup [p.2.r2 ρ] = AV.tup [p.2] := h2
   simp only [AV.tup.injEq, List.cons.injEq, and_true] at h2
   exact h2
  rw [h1, h2]; rfl
 | loop b D fn es ps asn bdy st =>
  have : es.map (AV.ren ρ) = es := map_id_of (p := AV.ok n) h fun v hv => ren_id hv hρ
  show SObj.loop _ _ _ _ _ _ _ _ = _
  rw [this]
 | _ => rfl
theorem idx_range {n i : Nat} (h : i < n) : idx (List.range n) i = i := by
 unfold idx
 rw [List.getD_eq_getElem?_getD, List.getElem?_range h]
 rfl
theorem subOk_pre {S T : Store} (n : Nat) (hn : S.length = n) (h : S.all (SObj.ok n) = true) : SubOk (List.range n) (S ++ T) S := by
 refine ⟨List.nodup_range, by simpa using hn, fun i o hi => ?_⟩
 have hlt := (List.getElem?_eq_some_iff.1 hi).1
 have ho := List.all_eq_true.1 h o (List.mem_of_getElem? hi)
 rw [List.length_range]
 refine ⟨ho, ?_⟩
 rw [sren_idn ho (fun j hj => idx_range hj), idx_range (by omega), List.getElem?_append_left hlt]
 exact hi
theorem nilT {t : By} (h : t ≠ []) : 0 < t.length := List.length_pos_iff.2 h
theorem iter_c (data : By) (hd : data.length ≤ 16777216) (b : Nat) (o0 o2 o6 : SObj) (o1 o5 : List By → SObj) (o3 : Int → SObj)
  (hok : ∀ rows v, ([o0, o1 rows, o2, o3 v, .cells [.st data], o5 rows, o6] : Store).all (SObj.ok 7) = true)
  (hY : ∀ (rows : List By) (v en : Int) (s : By) (x : R), rows.length ≤ 16777216 → s.length ≤ 1048576 → AYB Tryz.prog b [.st s, .it .i64 en] [o0, o1 rows, o2, o3 v, .cells [.st data], o5 rows, o6, rd x] (.bo true) [o0, o1 (rows ++ [s]), o2, o3 en, .cells [.st data], o5 (rows ++ [s]), o6, rd x]) :
  AC Tryz.prog 143 [.fn (.yield b) [] [], .ptr 4 0] [o0, o1 [], o2, o3 0, .cells [.st data], o5 [], o6] (.tup []) [o0, o1 (rowsOf data), o2, o3 ((recs (rowsOf data)).length : Int), .cells [.st data], o5 (rowsOf data), o6] := by
 refine AC.enter2 [146] [144] Tryz.func143 rfl (by decide) (by decide) (Nat.le_of_ble_eq_true rfl) (by kernel_rfl) ?_; refine zev ?_
 refine run ?_
 refine call_mk (AC.newAt (open_c data) _) ?_
 refine run ?_
 have fin : ∀ (x : R) (rows : List By) (v : Int) (e : Env), rows = rowsOf data → v = ((recs rows).length : Int) →
   Fin Tryz.prog Tryz.f143.results.toList 7 (.tup []) [o0, o1 (rowsOf data), o2, o3 ((recs (rowsOf data)).length : Int), .cells [.st data], o5 (rowsOf data), o6] e [o0, o1 rows, o2, o3 v, .cells [.st data], o5 rows, o6, rd x] := by
  intro x rows v e h1 h2
  subst h2; subst h1
  have := ends_ret (P := Tryz.prog) (rs := Tryz.f143.results.toList) (v := .tup []) (e := e) (N0 := 7) (vs := []) (List.range 7) (by rfl) (subOk_pre (S := [o0, o1 (rowsOf data), o2, o3 ((recs (rowsOf data)).length : Int), .cells [.st data], o5 (rowsOf data), o6]) (T := [rd x]) 7 rfl (hok _ _)) (by rfl) (by rfl) (by rfl)
  exact this
 refine loop_mk (fun m e S => e 0 = .fn (.yield b) [] [] ∧ e 1 = .ptr 4 0 ∧ e 3 = .ptr 7 0 ∧ ∃ (rows : List By) (t : By), S = [o0, o1 rows, o2, o3 ((recs rows).length : Int), .cells [.st data], o5 rows, o6, rd ⟨t, false⟩] ∧ data = recs rows ++ t ∧ okL rows ∧ rows.length ≤ (recs rows).length ∧ m = t.length) data.length ⟨zsl, zsl, zsl, [], data, rfl, rfl, (fun s hs => by cases hs), Nat.le_refl _, rfl⟩ ?_
 rintro m e S ⟨s0, s1, s3, rows, t, rfl, hdt, hokr, hrl, rfl⟩
 have hlen : data.length = (recs rows).length + t.length := by rw [← List.length_append, ← hdt]
 have hstuck : Wl.stuck t → rows = rowsOf data := fun h => by rw [hdt]; exact (rows_back hokr h).1.symm
 refine runf (an @s0 (an @s1 @s3)) ?_
 refine c1r 7 (left_c ⟨t, false⟩) ?_
 by_cases ht : t = []
 ·have hr := hstuck (by rw [ht]; exact stuck_nil)
  have ht0 : ¬ (0 < (t.length : Int)) := by rw [ht]; decide
  refine runf (an @s0 (an @s1 (an @s3 @ht0))) ?_
  exact fin _ _ _ _ hr rfl
 have ht0 : 0 < (t.length : Int) := by have := nilT ht; omega
 have hst : Wl.step ⟨t, false⟩ = (if ((R.num ⟨t, false⟩).2.take 4).1.length ≠ 4 ∨ 1048576 < (R.num ⟨t, false⟩).1 then none else
  if (((R.num ⟨t, false⟩).2.take 4).2.take (R.num ⟨t, false⟩).1).1.length ≠ (R.num ⟨t, false⟩).1 ∨ ck (((R.num ⟨t, false⟩).2.take 4).2.take (R.num ⟨t, false⟩).1).1 ≠ ((R.num ⟨t, false⟩).2.take 4).1 then none else
  some (((R.num ⟨t, false⟩).2.take 4).2.take (R.num ⟨t, false⟩).1)) := rfl
 have hinv := fun (s : By) (x : R) => step_inv (b := t) (s := s) (x := x)
 have k1 := rnum_c ⟨t, false⟩ (by show t.length < _; omega)
 have l1 := num_rest ⟨t, false⟩
 have l0 := num_lt ⟨t, false⟩
 refine runf (an @s0 (an @s1 (an @s3 @ht0))) ?_
 unfold Wl.stuck at hstuck
 generalize (R.num ⟨t, false⟩).1 = n at *
 generalize (R.num ⟨t, false⟩).2 = x1 at *
 refine c1 7 k1 ?_
 refine runf (an @s0 (an @s1 (an @s3 @ht0))) ?_
 have l1 : x1.rest.length ≤ t.length := l1
 have k2 := take_c x1 4 (by omega) (by omega)
 have l2 := take_rest x1 4
 generalize (x1.take 4).1 = c at *
 generalize (x1.take 4).2 = x2 at *
 refine c1 7 k2 ?_
 by_cases h4 : c.length = 4
 rotate_left
 ·rw [if_pos (.inl h4)] at hst
  have hr := hstuck hst
  refine runf (an @s0 (an @s1 @s3)) ?_
  exact fin _ _ _ _ hr rfl
 by_cases hn : 1048576 < n
 ·rw [if_pos (.inr hn)] at hst
  have hr := hstuck hst
  refine runf (an @s0 (an @s1 @s3)) ?_
  exact fin _ _ _ _ hr rfl
 rw [if_neg (by omega)] at hst
 refine runf (an @s0 (an @s1 @s3)) ?_
 have k3 := take_c x2 n (by omega) (by omega)
 have l3 := take_rest x2 n
 have e3 : x2.take n = ((x2.take n).1, (x2.take n).2) := rfl
 rw [e3] at hst
 generalize (x2.take n).1 = s at *
 generalize (x2.take n).2 = x3 at *
 clear e3
 refine c1 7 k3 ?_
 by_cases h5 : s.length = n
 rotate_left
 ·rw [if_pos (.inl h5)] at hst
  have hr := hstuck hst
  have h6 : ¬ ((s.length : Int) = (n : Int)) := by omega
  refine runf (an @s0 (an @s1 (an @s3 @h6))) ?_
  exact fin _ _ _ _ hr rfl
 have h6 : (s.length : Int) = (n : Int) := by omega
 refine runf (an @s0 (an @s1 (an @s3 @h6))) ?_
 refine cp (checksum_c s (by omega)) ?_
 by_cases h7 : ck s = c
 rotate_left
 ·rw [if_pos (.inr h7)] at hst
  have hr := hstuck hst
  have e7 : (ck s == c) = false := by simpa using h7
  refine runf (an @s0 (an @s1 (an @s3 @e7))) ?_
  exact fin _ _ _ _ hr rfl
 have e7 : (ck s == c) = true := by simpa using h7
 rw [if_neg (by simp [h5, h7])] at hst
 obtain ⟨i1, i2, i3⟩ := step_inv hst
 obtain ⟨t', bad⟩ := x3
 simp only at i1 i3
 subst i3
 refine runf (an @s0 (an @s1 (an @s3 @e7))) ?_
 refine c1r 7 (left_c ⟨t', false⟩) ?_
 have hrec : data = recs (rows ++ [s]) ++ t' := by rw [recs_snoc, List.append_assoc, ← i1]; exact hdt
 have hpos := rec1_pos s
 have hl1 : (recs (rows ++ [s])).length = (recs rows).length + (rec1 s).length := by rw [recs_snoc, List.length_append]
 have hl2 : t.length = (rec1 s).length + t'.length := by rw [i1, List.length_append]
 have hen : (data.length : Int) - (t'.length : Int) = ((recs (rows ++ [s])).length : Int) := by omega
 have hyy := hY rows ((recs rows).length : Int) ((recs (rows ++ [s])).length : Int) s ⟨t', false⟩ (by omega) i2
 have hrl2 : (rows ++ [s]).length ≤ (recs (rows ++ [s])).length := by rw [List.length_append]; simp only [List.length_cons, List.length_nil]; omega
 have hok2 : okL (rows ++ [s]) := okL_append hokr (fun x hx => by rw [List.mem_singleton.1 hx]; exact i2)
 clear hY hst hinv hstuck i1 hdt
 generalize hm1 : (recs (rows ++ [s])).length = m1 at *
 refine runf (an @s0 (an @s1 (an @s3 @hen))) ?_
 refine callP_mk _ _ (show AYT _ _ _ _ _ _ _ _ _ from ⟨⟨rfl, rfl⟩, hyy⟩) ?_
 refine runf (an @s0 (an @s1 @s3)) ?_
 exact round_mk t'.length (by omega) ⟨zsl, zsl, zsl, rows ++ [s], t', by rw [hm1], hrec, hok2, by omega, rfl⟩
end Go.Proofs.YtleljbiejeofgaaGreatDoor.Pe
end
section
namespace Go.Proofs.YtleljbiejeofgaaGreatDoor.Pe
open Go Go.RowKit Co Dm Wl
set_option maxRecDepth 100000
set_option maxHeartbeats 4000000
theorem subOk_same {S1 S : Store} (n : Nat) (h : S1 = S) (hn : S.length = n) (hk : S.all (SObj.ok n) = true) : SubOk (List.range n) S1 S := by
 subst h
 have := subOk_pre (T := []) n hn hk
 rwa [List.append_nil] at this
abbrev LG (d : Dk) (f : Int) (rows : List By) : Store := [XD d, .cells [.ptr 0 0, .it .i64 f, .sl (.own 2) (rows.map .st)], .buf rows.length 9 1]
theorem clear_c (d : Dk) (f : Int) (rows : List By) (hf : 0 ≤ f ∧ f ≤ 6) : AC Tryz.prog 99 [.ptr 1 0] (LG d f rows) (.it .i64 (clearD d f).1) (LG (clearD d f).2 f rows) := by
 refine AC.enter2 [] [148] Tryz.func99 rfl (by decide) (by decide) (Nat.le_of_ble_eq_true rfl) (by kernel_rfl) ?_; refine zev ?_
 have hcl : clearD d f = (if size d (f + 1) = 0 then (0, d) else cutD d (f + 1) 0) := rfl
 refine run ?_
 refine c1r 0 (d_size d (f + 1)) ?_
 by_cases hz : size d (f + 1) = 0
 ·rw [if_pos hz] at hcl
  rw [hcl]
  have e1 : ((size d (f + 1) : Int) == 0) = true := by rw [hz]; rfl
  refine runf @e1 ?_
  exact ends_ret (List.range 3) (by rfl) (subOk_pre (S := LG d f rows) (T := []) 3 rfl (by rfl)) (by rfl) (by rfl) (by rfl)
 ·rw [if_neg hz] at hcl
  rw [hcl]
  have e1 : ((size d (f + 1) : Int) == 0) = false := by simp; omega
  refine runf @e1 ?_
  refine c1 0 (d_cut d (f + 1) 0) ?_
  refine run ?_
  exact ends_ret (List.range 3) (by rfl) (subOk_pre (S := LG (cutD d (f + 1) 0).2 f rows) (T := []) 3 rfl (by rfl)) (by rfl) (by rfl) (by rfl)
theorem records_at (s : By) (T : Store) : AC Tryz.prog 97 [.st s] T (.fn (.func 143) [] [.ptr T.length 0]) (T ++ [.cells [.st s]]) := by
 have := AC.fresh1 (records_c s) rfl (by rfl) (by rfl) T
 simpa [AV.ren, AV.r2, AV.r1, AV.r0, SObj.ren] using this
abbrev LO (d : Dk) (f : Int) (rows : List By) (o2 o3 o4 o6 : SObj) : Store := [XD d, .cells [.ptr 0 0, .it .i64 f, .sl (.own 5) (rows.map .st)], o2, o3, o4, .buf rows.length 9 1, o6]
theorem lo_sub (d : Dk) (f : Int) (rows : List By) (o2 o3 o4 o6 : SObj) : SubOk [0, 1, 5] (LO d f rows o2 o3 o4 o6) (LG d f rows) := ⟨by decide, rfl, fun i o hi => by
 match i, hi with
 | 0, hi => cases hi; exact ⟨rfl, rfl⟩
 | 1, hi => cases hi; exact ⟨rfl, rfl⟩
 | 2, hi => cases hi; exact ⟨rfl, rfl⟩⟩
theorem clear_at (d : Dk) (f : Int) (rows : List By) (hf : 0 ≤ f ∧ f ≤ 6) (o2 o3 o4 o6 : SObj) : AC Tryz.prog 99 [.ptr 1 0] (LO d f rows o2 o3 o4 o6) (.it .i64 (clearD d f).1) (LO (clearD d f).2 f rows o2 o3 o4 o6) :=
 (clear_c d f rows hf).frame (T := LO d f rows o2 o3 o4 o6) [0, 1, 5] (lo_sub ..) rfl rfl (fun i o hi => by
  match i, hi with
  | 0, hi => cases hi; rfl
  | 1, hi => cases hi; rfl
  | 2, hi => cases hi; rfl)
theorem wopen_c (d : Dk) (f : Int) (hf : 0 ≤ f ∧ f ≤ 6) (hb : (peek d f).1.length ≤ 16777216) (v : AV) (S' : Store)
  (h0 : (openD d f).1 = 0 → v = .tup [.ptr 1 0, .it .i64 0] ∧ S' = LG (openD d f).2 f (rowsOf (peek d f).1))
  (h1 : (openD d f).1 ≠ 0 → v = .tup [.ot (.pointer none), .it .i64 (openD d f).1] ∧ S' = [XD (openD d f).2]) :
  AC Tryz.prog 51 [.ptr 0 0, .it .i64 f] [XD d] v S' := by
 refine AC.enterN 76 [] [] Tryz.func51 rfl (by decide) (by decide) (Nat.le_of_ble_eq_true rfl) (by kernel_rfl) rfl ?_; refine zev ?_
 have hod : openD d f = (if (peek d f).2 ≠ 0 then ((peek d f).2, d) else
  if (trimD d f).1 ≠ 0 then trimD d f else
  if (clearD (trimD d f).2 f).1 ≠ 0 then clearD (trimD d f).2 f else
  flushD (clearD (trimD d f).2 f).2 f) := rfl
 have htr : trimD d f = (if (recs (rowsOf (peek d f).1)).length < (peek d f).1.length then cutD d f ((recs (rowsOf (peek d f).1)).length : Int) else (0, d)) := rfl
 have hn1 : ¬ f < 0 := by omega
 have hn2 : ¬ 6 < f := by omega
 have kr := d_read d f
 generalize (peek d f).1 = b at *
 generalize (peek d f).2 = en at *
 refine runf (an @hn1 @hn2) ?_
 refine c1 0 kr ?_
 by_cases hen : en = 0
 rotate_left
 ·rw [if_pos hen] at hod
  rw [hod] at h0 h1
  obtain ⟨rfl, rfl⟩ := h1 hen
  have e1 : (en != 0) = true := by simpa using hen
  refine runf @e1 ?_
  exact ends_ret (List.range 1) (by rfl) (subOk_pre (S := [XD d]) (T := []) 1 rfl (by rfl)) (by rfl) (by rfl) (by rfl)
 rw [if_neg (by simpa using hen)] at hod
 subst hen
 refine run ?_
 refine call_mk (records_at b _) ?_
 refine run ?_
 refine ⟨_, _, (Weak.keep 1 ((((((Keep.nil _).cons 0 (.ptr 0 0) zsl).cons 1 (.it .i64 f) zsl).cons 6 (.st b) zsl).cons 8 (.ptr 2 0) zsl).cons 9 (.ptr 3 0) zsl |>.cons 39 (.fn (.func 143) [] [.ptr 4 0]) zsl)).trans2 (Weak.reserveN 1 1 2 (es := []) (by rfl) (by rfl) 9 1), ?_⟩
 have hEok : (envL 76 (upd (upd (upd (upd (upd (upd (fun _ => .junk) 0 (.ptr 0 0)) 1 (.it .i64 f)) 6 (.st b)) 8 (.ptr 2 0)) 9 (.ptr 3 0)) 39 (.fn (.func 143) [] [.ptr 4 0]))).all (AV.ok 7) = true := by rfl
 have hEok8 : (envL 76 (upd (upd (upd (upd (upd (upd (fun _ => .junk) 0 (.ptr 0 0)) 1 (.it .i64 f)) 6 (.st b)) 8 (.ptr 2 0)) 9 (.ptr 3 0)) 39 (.fn (.func 143) [] [.ptr 4 0]))).all (AV.ok 8) = true := by rfl
 have s0 : upd (upd (upd (upd (upd (upd (fun _ => .junk) 0 (.ptr 0 0)) 1 (.it .i64 f)) 6 (.st b)) 8 (.ptr 2 0)) 9 (.ptr 3 0)) 39 (.fn (.func 143) [] [.ptr 4 0]) 0 = .ptr 0 0 := rfl
 have s1 : upd (upd (upd (upd (upd (upd (fun _ => .junk) 0 (.ptr 0 0)) 1 (.it .i64 f)) 6 (.st b)) 8 (.ptr 2 0)) 9 (.ptr 3 0)) 39 (.fn (.func 143) [] [.ptr 4 0]) 1 = .it .i64 f := rfl
 have s6 : upd (upd (upd (upd (upd (upd (fun _ => .junk) 0 (.ptr 0 0)) 1 (.it .i64 f)) 6 (.st b)) 8 (.ptr 2 0)) 9 (.ptr 3 0)) 39 (.fn (.func 143) [] [.ptr 4 0]) 6 = .st b := rfl
 have s8 : upd (upd (upd (upd (upd (upd (fun _ => .junk) 0 (.ptr 0 0)) 1 (.it .i64 f)) 6 (.st b)) 8 (.ptr 2 0)) 9 (.ptr 3 0)) 39 (.fn (.func 143) [] [.ptr 4 0]) 8 = .ptr 2 0 := rfl
 have s9 : upd (upd (upd (upd (upd (upd (fun _ => .junk) 0 (.ptr 0 0)) 1 (.it .i64 f)) 6 (.st b)) 8 (.ptr 2 0)) 9 (.ptr 3 0)) 39 (.fn (.func 143) [] [.ptr 4 0]) 9 = .ptr 3 0 := rfl
 have s39 : upd (upd (upd (upd (upd (upd (fun _ => .junk) 0 (.ptr 0 0)) 1 (.it .i64 f)) 6 (.st b)) 8 (.ptr 2 0)) 9 (.ptr 3 0)) 39 (.fn (.func 143) [] [.ptr 4 0]) 39 = .fn (.func 143) [] [.ptr 4 0] := rfl
 generalize (upd (upd (upd (upd (upd (upd (fun _ => .junk) 0 (.ptr 0 0)) 1 (.it .i64 f)) 6 (.st b)) 8 (.ptr 2 0)) 9 (.ptr 3 0)) 39 (.fn (.func 143) [] [.ptr 4 0])) = E at *
 refine ARF_mk (show ev E (.tmp 39) = _ from s39) (.tup []) [XD d, .cells [.ptr 0 0, .it .i64 f, .sl (.own 5) ((rowsOf b).map .st)], .cells [.ptr 1 0], .cells [.it .i64 ((recs (rowsOf b)).length : Int)], .cells [.st b], .buf (rowsOf b).length 9 1] [] rfl ?_ ?_
 ·intro bk D fn
  refine iter_c b hb bk (XD d) (.cells [.ptr 1 0]) (.loop bk D fn (envL 76 E) _ _ _ .ready) (fun rows => .cells [.ptr 0 0, .it .i64 f, .sl (.own 5) (rows.map .st)]) (fun rows => .buf rows.length 9 1) (fun v => .cells [.it .i64 v]) (fun rows v => ?_) ?_
  ·show (true && (true && (true && (true && (true && (true && ((envL 76 E).all (AV.ok 7) && true))))))) = true
   rw [hEok]
   rfl
  intro rows v en s x hr hs
  have f1 : (rows ++ [s]).map AV.st = rows.map .st ++ [.st s] := List.map_append ..
  have f2 : (rows ++ [s]).length = rows.length + 1 := by simp
  simp only [f1, f2]
  refine AYB.enter4 (es := envL 76 E) [] [] [(11, ([2], [42, 43], []))] [] 6 rfl rfl (by intro p hp; simp at hp; rcases hp with rfl | rfl <;> simp [envL]) rfl (by kernel_rfl) (by kernel_rfl) rfl ?_
  have a8 : argEnv (envL 76 E) 8 = .ptr 2 0 := (argEnv_envL E (by omega)).trans s8
  have a9 : argEnv (envL 76 E) 9 = .ptr 3 0 := (argEnv_envL E (by omega)).trans s9
  simp only [eraseC, eraseG, eraseO, List.map_cons, List.map_nil, List.map_toArray, List.getElem?_toArray, List.getElem?_cons_zero, List.getElem?_cons_succ, Option.bind_some, Option.bind_none, List.append_eq, List.cons_append, List.nil_append, putE_cons, putE_nil]
  refine run ?_
  refine ⟨rfl, ?_⟩
  simp only [eraseC, eraseG, eraseO, List.map_cons, List.map_nil, List.map_toArray, List.getElem?_toArray, List.getElem?_cons_zero, List.getElem?_cons_succ, Option.bind_some, Option.bind_none, List.append_eq, List.cons_append, List.nil_append, eraseC4, eraseC3, hasSp, ordOf, List.isEmpty_nil, List.isEmpty_cons, Bool.and_true, Bool.and_false, Bool.and_self, Bool.false_and, Bool.true_and, List.lookup, Nat.reduceBEq, beq_self_eq_true, List.head?_cons, List.head?_nil, Option.some_beq_some, Option.none_beq_some, Option.isSome_some, Option.isSome_none, Bool.or_true, Bool.true_or, Bool.or_false, Bool.not_true, Bool.not_false, Bool.false_eq_true, if_true, if_false, ↓reduceIte, List.size_toArray, List.length_cons, List.length_nil, List.range_succ_eq_map, List.range_zero, Nat.reduceAdd, List.filterMap_cons, List.filterMap_nil]
  have hsz : allSz 1 [AV.st s] = true := rfl
  have hft : fits (rows.length + 1) 16 = true := by apply fits_ok <;> omega
  have hlen : (rows.map AV.st).length = rows.length := List.length_map _
  refine runf4 (an @a8 @a9) ?_
  refine ⟨_, _, Weak.keep 8 ((((Keep.nil _).cons 8 (.ptr 2 0) zsl).cons 9 (.ptr 3 0) zsl).cons 10 (.st s) zsl |>.cons 11 (.it .i64 en) zsl), ?_⟩
  refine run4 ?_
  repeat (first | refine k4 ?_ | refine k4r ?_ | (refine a4r ?_; refine runf4 (an @hsz (an @hft @hlen)) ?_) | (refine a4 ?_; refine runf4 (an @hsz (an @hft @hlen)) ?_)); try refine runf4 (an @hsz (an @hft @hlen)) ?_
  refine ⟨_, _, List.range 8, Weak.refl _ _ _, rfl, subOk_same 8 rfl rfl ?_, rfl⟩
  show (true && (true && (true && (true && (true && (true && ((envL 76 E).all (AV.ok 8) && (true && true)))))))) = true
  rw [hEok8]
  rfl
 ·clear hEok hEok8 s39
  generalize hrw : rowsOf b = rows at *
  have one : ∀ (d' : Dk) (o2 o3 o4 o6 : SObj), SubOk [0] (LO d' f rows o2 o3 o4 o6) [XD d'] := fun d' o2 o3 o4 o6 => subOk_one 0 rfl rfl
  by_cases hlt : (recs rows).length < b.length
  ·rw [if_pos hlt] at htr
   have e1 : ((recs rows).length : Int) < (b.length : Int) := by omega
   refine runf (an @s0 (an @s1 (an @s6 (an @s8 (an @s9 @e1))))) ?_
   refine c1 0 (d_cut d f ((recs rows).length : Int)) ?_
   rw [← htr]
   clear htr
   generalize trimD d f = q at *
   obtain ⟨te, d1⟩ := q
   simp only at hod
   by_cases hte : te = 0
   rotate_left
   ·rw [if_pos hte] at hod
    rw [hod] at h0 h1
    obtain ⟨rfl, rfl⟩ := h1 hte
    have e3 : (te != 0) = true := by simpa using hte
    refine runf (an @s0 (an @s1 (an @s6 (an @s8 (an @s9 @e3))))) ?_
    exact ends_ret [0] (by rfl) (one _ _ _ _ _) (by rfl) (by rfl) (by rfl)
   subst hte
   rw [if_neg (by simp)] at hod
   refine runf (an @s0 (an @s1 (an @s6 (an @s8 @s9)))) ?_
   have kc := clear_at d1 f rows hf (.cells [.ptr 1 0]) (.cells [.it .i64 ((recs rows).length : Int)]) (.cells [.st b]) .dead
   refine call_mk kc ?_
   generalize clearD d1 f = q2 at *
   obtain ⟨ce, d2⟩ := q2
   simp only at hod
   by_cases hce : ce = 0
   rotate_left
   ·rw [if_pos hce] at hod
    rw [hod] at h0 h1
    obtain ⟨rfl, rfl⟩ := h1 hce
    have e3 : (ce != 0) = true := by simpa using hce
    refine runf (an @s0 (an @s1 (an @s6 (an @s8 (an @s9 @e3))))) ?_
    exact ends_ret [0] (by rfl) (one _ _ _ _ _) (by rfl) (by rfl) (by rfl)
   subst hce
   rw [if_neg (by simp)] at hod
   refine runf (an @s0 (an @s1 (an @s6 (an @s8 @s9)))) ?_
   have kf := d_flush d2 f
   refine c1 0 kf ?_
   generalize flushD d2 f = q3 at *
   obtain ⟨fe, d3⟩ := q3
   rw [hod] at h0 h1
   simp only at h0 h1
   by_cases hfe : fe = 0
   rotate_left
   ·obtain ⟨rfl, rfl⟩ := h1 hfe
    have e3 : (fe != 0) = true := by simpa using hfe
    refine runf (an @s0 (an @s1 (an @s6 (an @s8 (an @s9 @e3))))) ?_
    exact ends_ret [0] (by rfl) (one _ _ _ _ _) (by rfl) (by rfl) (by rfl)
   subst hfe
   obtain ⟨rfl, rfl⟩ := h0 rfl
   refine runf (an @s0 (an @s1 (an @s6 (an @s8 @s9)))) ?_
   exact ends_ret [0, 1, 5] (by rfl) (lo_sub ..) (by rfl) (by rfl) (by rfl)
  ·rw [if_neg hlt] at htr
   have e1 : ¬ ((recs rows).length : Int) < (b.length : Int) := by omega
   refine runf (an @s0 (an @s1 (an @s6 (an @s8 (an @s9 @e1))))) ?_
   generalize trimD d f = q at *
   subst htr
   simp only at hod
   rw [if_neg (by simp)] at hod
   generalize d = d1 at *
   have kc := clear_at d1 f rows hf (.cells [.ptr 1 0]) (.cells [.it .i64 ((recs rows).length : Int)]) (.cells [.st b]) .dead
   refine call_mk kc ?_
   generalize clearD d1 f = q2 at *
   obtain ⟨ce, d2⟩ := q2
   simp only at hod
   by_cases hce : ce = 0
   rotate_left
   ·rw [if_pos hce] at hod
    rw [hod] at h0 h1
    obtain ⟨rfl, rfl⟩ := h1 hce
    have e3 : (ce != 0) = true := by simpa using hce
    refine runf (an @s0 (an @s1 (an @s6 (an @s8 (an @s9 @e3))))) ?_
    exact ends_ret [0] (by rfl) (one _ _ _ _ _) (by rfl) (by rfl) (by rfl)
   subst hce
   rw [if_neg (by simp)] at hod
   refine runf (an @s0 (an @s1 (an @s6 (an @s8 @s9)))) ?_
   have kf := d_flush d2 f
   refine c1 0 kf ?_
   generalize flushD d2 f = q3 at *
   obtain ⟨fe, d3⟩ := q3
   rw [hod] at h0 h1
   simp only at h0 h1
   by_cases hfe : fe = 0
   rotate_left
   ·obtain ⟨rfl, rfl⟩ := h1 hfe
    have e3 : (fe != 0) = true := by simpa using hfe
    refine runf (an @s0 (an @s1 (an @s6 (an @s8 (an @s9 @e3))))) ?_
    exact ends_ret [0] (by rfl) (one _ _ _ _ _) (by rfl) (by rfl) (by rfl)
   subst hfe
   obtain ⟨rfl, rfl⟩ := h0 rfl
   refine runf (an @s0 (an @s1 (an @s6 (an @s8 @s9)))) ?_
   exact ends_ret [0, 1, 5] (by rfl) (lo_sub ..) (by rfl) (by rfl) (by rfl)
end Go.Proofs.YtleljbiejeofgaaGreatDoor.Pe
end
section
namespace Go.Proofs.YtleljbiejeofgaaGreatDoor.Pe
open Go Go.RowKit Co Dm Wl
set_option maxRecDepth 100000
set_option maxHeartbeats 4000000
theorem lg_same (d : Dk) (f : Int) (rows : List By) : SubOk (List.range 3) (LG d f rows) (LG d f rows) := subOk_same 3 rfl rfl rfl
theorem wadd_c (d : Dk) (f : Int) (rows : List By) (s : By) (hs : s.length ≤ 140737488355328) (hr : rows.length ≤ 16777216) :
  AC Tryz.prog 113 [.ptr 1 0, .st s] (LG d f rows) (.it .i64 (addD d f s).1) (LG (addD d f s).2 f (if (addD d f s).1 = 0 then rows ++ [s] else rows)) := by
 refine AC.enter2 [159] [] Tryz.func113 rfl (by decide) (by decide) (Nat.le_of_ble_eq_true rfl) (by kernel_rfl) ?_; refine zev ?_
 have had : addD d f s = (if 1048576 < s.length then (7, d) else appendD d f (rec1 s)) := rfl
 by_cases hl : 1048576 < s.length
 ·rw [if_pos hl] at had
  rw [had]
  simp only
  rw [if_neg (by decide)]
  have e1 : (s.length : Int) > 1048576 := by omega
  refine runf @e1 ?_
  exact ends_ret (List.range 3) (by rfl) (lg_same ..) (by rfl) (by rfl) (by rfl)
 rw [if_neg hl] at had
 have e1 : ¬ ((s.length : Int) > 1048576) := by omega
 have hrl : (rec1 s).length ≤ 9223372036854775807 := by
  have h1 := num_le 8 s.length (by omega)
  have h2 := ck_len s
  simp only [rec1, List.length_append]
  omega
 refine runf @e1 ?_
 refine cp (record_c s hs) ?_
 refine run ?_
 refine c1 0 (d_append d f (rec1 s) hrl) ?_
 rw [← had]
 generalize addD d f s = q
 obtain ⟨en, d2⟩ := q
 try simp only
 by_cases hen : en = 0
 ·subst hen
  rw [if_pos rfl]
  have hft : fits (rows.length + 1) 16 = true := by apply fits_ok <;> omega
  have hln : (rows.map AV.st).length = rows.length := List.length_map _
  have f1 : (rows ++ [s]).map AV.st = rows.map .st ++ [.st s] := List.map_append ..
  have f2 : (rows ++ [s]).length = rows.length + 1 := by simp
  unfold LG
  simp only [f1, f2]
  refine runf (an @hft @hln) ?_
  exact ends_ret (List.range 3) (by rfl) (subOk_same 3 rfl rfl rfl) (by rfl) (by rfl) (by rfl)
 ·rw [if_neg hen]
  have e2 : (en == 0) = false := by simpa using hen
  refine runf @e2 ?_
  exact ends_ret (List.range 3) (by rfl) (lg_same ..) (by rfl) (by rfl) (by rfl)
theorem wflush_c (d : Dk) (f : Int) (rows : List By) : AC Tryz.prog 70 [.ptr 1 0] (LG d f rows) (.it .i64 (flushD d f).1) (LG (flushD d f).2 f rows) := by
 refine AC.enter2 [] [] Tryz.func70 rfl (by decide) (by decide) (Nat.le_of_ble_eq_true rfl) (by kernel_rfl) ?_; refine zev ?_
 refine run ?_
 refine c1 0 (d_flush d f) ?_
 refine run ?_
 exact ends_ret (List.range 3) (by rfl) (lg_same ..) (by rfl) (by rfl) (by rfl)
end Go.Proofs.YtleljbiejeofgaaGreatDoor.Pe
end
section
namespace Go.Proofs.YtleljbiejeofgaaGreatDoor.Pe
open Go Go.RowKit Co Dm Wl
set_option maxRecDepth 100000
set_option maxHeartbeats 4000000
theorem AC.emptiesW [Tab] {P : Program} {f : FuncId} {m : Mode} {rest : List AV} {S S' : Store} {v : AV} (h : ∀ (A : Option Addr) (c : Nat), AC P f (.ot (.slice A 0 c) :: rest) S v S') : AC P f (.sl m [] :: rest) S v S' := by
 refine ⟨(h none 0).can, fun w g cargs hw hargs => ?_⟩
 obtain ⟨h1, h2⟩ := hargs
 have h0 : 0 < cargs.size := by rw [h1]; simp
 have hr := h2 0 _ cargs[0] rfl (Array.getElem?_eq_getElem h0)
 generalize hcv : cargs[0] = cv at hr
 cases hr with
 | sl _ _ _ A c sz cu hc hcm hsz hA h1' hr' hm =>
  refine (h A c).run w g cargs hw ⟨by simpa using h1, fun j u v hu hv => ?_⟩
  cases j with
  | zero =>
   simp only [List.getElem?_cons_zero, Option.some.injEq] at hu
   subst hu
   rw [Array.getElem?_eq_getElem h0, hcv] at hv
   cases hv
   exact .ot _ _ rfl
  | succ j => exact h2 (j + 1) u v (by simpa using hu) hv
theorem wclone_c (l : List By) (hl : l.length ≤ 16777216) : AC Tryz.prog 109 [.sl .ro (l.map AV.st)] [] (.sl .ro (l.map AV.st)) [] := by
 cases l with
 | nil =>
  refine AC.emptiesW fun A c => ?_
  refine AC.enter [] [] Tryz.func109 rfl (by decide) (by decide) (Nat.le_of_ble_eq_true rfl) (by kernel_rfl) ?_; refine zev ?_
  cases A with
  | none =>
   refine run ?_
   exact er0w
  | some A =>
   refine run ?_
   exact er0w
 | cons x l =>
  have hs1 : allSz 1 ((x :: l).map AV.st) = true := allSz_map 1 AV.st (fun _ => rfl) _
  have hl' : l.length ≤ 16777216 := by simp only [List.length_cons] at hl; omega
  simp only [List.map_cons] at hs1 ⊢
  refine AC.enter [] [] Tryz.func109 rfl (by decide) (by decide) (Nat.le_of_ble_eq_true rfl) (by kernel_rfl) ?_; refine zev ?_
  refine runf @hs1 ?_
  exact er0w
theorem wall_c (d : Dk) (f : Int) (rows : List By) (hr : rows.length ≤ 16777216) : AC Tryz.prog 54 [.ptr 1 0] (LG d f rows) (.sl .ro (rows.map AV.st)) (LG d f rows) := by
 refine AC.enter2 [109] [] Tryz.func54 rfl (by decide) (by decide) (Nat.le_of_ble_eq_true rfl) (by kernel_rfl) ?_; refine zev ?_
 refine run ?_
 refine cp (wclone_c rows hr) ?_
 refine run ?_
 exact ends_ret (List.range 3) (by rfl) (lg_same ..) (by rfl) (by rfl) (by rfl)
end Go.Proofs.YtleljbiejeofgaaGreatDoor.Pe
end
section
namespace Go.Proofs.YtleljbiejeofgaaGreatDoor.Pe
open Go Go.RowKit Co Dm Wl
set_option maxRecDepth 100000
set_option maxHeartbeats 4000000
theorem wopen_ok (d : Dk) (f : Int) (hf : 0 ≤ f ∧ f ≤ 6) (hb : (peek d f).1.length ≤ 16777216) (h : (openD d f).1 = 0) :
  AC Tryz.prog 51 [.ptr 0 0, .it .i64 f] [XD d] (.tup [.ptr 1 0, .it .i64 0]) (LG (openD d f).2 f (rowsOf (peek d f).1)) :=
 wopen_c d f hf hb _ _ (fun _ => ⟨rfl, rfl⟩) (fun h' => absurd h h')
section
variable {P : Program} {pf rf : List FuncId} {e : Env} {f : FuncId} {dst : Option Nat} {rest : List AO} {K : Env → Store → Prop}
theorem lg_ok (d : Dk) (n : Int) (rows : List By) : ∀ (i : Nat) (o : SObj), (LG d n rows)[i]? = some o → o.ok 3 = true := fun i o hi => by
 match i, hi with
 | 0, hi => cases hi; rfl
 | 1, hi => cases hi; rfl
 | 2, hi => cases hi; rfl
structure LgAt (T : Store) (a b c : Nat) (d : Dk) (n : Int) (rows : List By) : Prop where
 ab : a ≠ b
 ac : a ≠ c
 bc : b ≠ c
 d0 : T[a]? = some (XD d)
 l0 : T[b]? = some (.cells [.ptr a 0, .it .i64 n, .sl (.own c) (rows.map .st)])
 r0 : T[c]? = some (.buf rows.length 9 1)
theorem LgAt.sub {T : Store} {a b c : Nat} {d : Dk} {n : Int} {rows : List By} (h : LgAt T a b c d n rows) : SubOk [a, b, c] T (LG d n rows) := ⟨by simp [h.ab, h.ac, h.bc], rfl, fun i o hi => by
 match i, hi with
 | 0, hi => cases hi; exact ⟨rfl, h.d0⟩
 | 1, hi => cases hi; exact ⟨rfl, h.l0⟩
 | 2, hi => cases hi; exact ⟨rfl, h.r0⟩⟩
theorem AC.lg {args : List AV} {T : Store} {d d' : Dk} {n : Int} {rows rows' : List By} {v : AV} {a b c : Nat} (hl : LgAt T a b c d n rows) (h : AC P f (.ptr 1 0 :: args) (LG d n rows) v (LG d' n rows'))
  (ha : args.all (AV.ok 0) = true) (hv : v.ok 0 = true) : AC P f (.ptr b 0 :: args) T v (((T.set a (XD d')).set b (.cells [.ptr a 0, .it .i64 n, .sl (.own c) (rows'.map .st)])).set c (.buf rows'.length 9 1)) := by
 have ha1 : ∀ u ∈ args, u.ok 3 = true := fun u hu => ok_mono (List.all_eq_true.1 ha u hu) (Nat.zero_le 3)
 have := h.frame (T := T) [a, b, c] hl.sub (by simp only [List.all_cons, Bool.and_eq_true]; exact ⟨rfl, List.all_eq_true.2 ha1⟩) (ok_mono hv (Nat.zero_le 3)) (lg_ok _ _ _)
 rw [List.map_cons, ren_all ha, ren_id hv (fun i hi => absurd hi (Nat.not_lt_zero _))] at this
 simpa [after, setAll, ext, idx, SObj.ren, AV.r1, AV.r0, Mode.ren, AV.ren, AV.r2] using this
theorem AC.lo {T : Store} {d d' : Dk} {n : Int} {rows : List By} {a : Nat} (hT : T[a]? = some (XD d)) (h : AC P f [.ptr 0 0, .it .i64 n] [XD d] (.tup [.ptr 1 0, .it .i64 0]) (LG d' n rows)) :
  AC P f [.ptr a 0, .it .i64 n] T (.tup [.ptr T.length 0, .it .i64 0]) (T.set a (XD d') ++ [.cells [.ptr a 0, .it .i64 n, .sl (.own (T.length + 1)) (rows.map .st)], .buf rows.length 9 1]) := by
 have := h.frame (T := T) [a] (subOk_one a rfl hT) rfl rfl (lg_ok _ _ _)
 simpa [after, setAll, ext, idx, SObj.ren, AV.r1, AV.r0, Mode.ren, AV.ren, AV.r2] using this
theorem clg {args gargs : List AV} {T : Store} {d d' : Dk} {n : Int} {rows rows' : List By} {v : AV} (a b c : Nat) (h : AC P f (.ptr 1 0 :: args) (LG d n rows) v (LG d' n rows'))
  (h' : ARg P pf rf rest (put e dst v) (((T.set a (XD d')).set b (.cells [.ptr a 0, .it .i64 n, .sl (.own c) (rows'.map .st)])).set c (.buf rows'.length 9 1)) K)
  (hl : LgAt T a b c d n rows := by exact ⟨by decide, by decide, by decide, rfl, rfl, rfl⟩) (ha : args.all (AV.ok 0) = true := by rfl) (hv : v.ok 0 = true := by rfl) (hg : gargs.map AV.wk = .ptr b 0 :: args := by rfl) :
  callP (AnyC P f gargs T) (ARgk P pf rf dst rest e K) := call_mk (show AC P f (gargs.map AV.wk) T v _ by rw [hg]; exact AC.lg hl h ha hv) h'
theorem clo {gargs : List AV} {T : Store} {d d' : Dk} {n : Int} {rows : List By} (a : Nat) (h : AC P f [.ptr 0 0, .it .i64 n] [XD d] (.tup [.ptr 1 0, .it .i64 0]) (LG d' n rows))
  (h' : ARg P pf rf rest (put e dst (.tup [.ptr T.length 0, .it .i64 0])) (T.set a (XD d') ++ [.cells [.ptr a 0, .it .i64 n, .sl (.own (T.length + 1)) (rows.map .st)], .buf rows.length 9 1]) K)
  (hT : T[a]? = some (XD d) := by rfl) (hg : gargs.map AV.wk = [.ptr a 0, .it .i64 n] := by rfl) :
  callP (AnyC P f gargs T) (ARgk P pf rf dst rest e K) := call_mk (show AC P f (gargs.map AV.wk) T _ _ by rw [hg]; exact AC.lo hT h) h'
end
end Go.Proofs.YtleljbiejeofgaaGreatDoor.Pe
end
section
namespace Go.Proofs.YtleljbiejeofgaaGreatDoor.Pe
open Go Go.RowKit Co Sg Ac It Sl Wl
set_option maxRecDepth 100000
set_option maxHeartbeats 4000000
theorem icopyI_c (i : It.Item) (h1 : i.act.to.length ≤ 1000000) (h2 : i.act.wraps.length ≤ 1000000) (h3 : i.decision.to.length ≤ 1000000) : AC Tryz.prog 90 [itemV i] [] (itemV i) [] := by
 refine AC.enter2 [109, 136] [] Tryz.func90 rfl (by decide) (by decide) (Nat.le_of_ble_eq_true rfl) (by kernel_rfl) ?_; refine zev ?_
 refine run ?_
 refine cp (cloneS_c i.act.to h1) ?_
 refine run ?_
 refine cp (cloneW_c i.act.wraps h2) ?_
 refine run ?_
 refine cp (cloneS_c i.decision.to h3) ?_
 refine run ?_
 exact er0
theorem icopyP_c (e : Evidence) (h : e.link.length ≤ 1000000) : AC Tryz.prog 119 [evV e] [] (evV e) [] := by
 refine AC.enter2 [109] [] Tryz.func119 rfl (by decide) (by decide) (Nat.le_of_ble_eq_true rfl) (by kernel_rfl) ?_; refine zev ?_
 refine run ?_
 refine cp (cloneS_c e.link h) ?_
 refine run ?_
 exact er0
theorem iproofRow_c (e : Evidence) (h : formedE e = true) : AC Tryz.prog 118 [evV e] [] (.st (rowP e)) [] := by
 have hl := (formedE_iff.1 h).2.2.2.1
 have hr := rowP_len h
 have k1 := num_c 3 (by decide) (by decide)
 have k2 := fkbytes_c e (by omega)
 unfold rowP at hr ⊢
 rw [List.length_append] at hr
 have hb : (evidB e).length ≤ 3000 := by
  have : (text (evidB e)).length = (num (evidB e).length).length + (evidB e).length := by unfold text; rw [List.length_append]
  omega
 have k3 := text_c (evidB e) (by omega)
 change AC _ _ _ _ (.st (num 3)) _ at k1
 generalize num 3 = a at *
 generalize text (evidB e) = c at *
 generalize evidB e = b at *
 refine AC.enter [75, 74, 161] [] Tryz.func118 rfl (by decide) (by decide) (Nat.le_of_ble_eq_true rfl) (by kernel_rfl) ?_; refine zev ?_
 refine run ?_
 refine cp k1 ?_
 refine run ?_
 refine cp k2 ?_
 refine run ?_
 refine cp k3 ?_
 refine run ?_
 exact er0
theorem ibatchRows_c (b : Batch) (hl : b.entries.length ≤ 1000) (hz : ∀ e ∈ b.entries, Iz e.item) (hs : ∀ e ∈ b.entries, (entryB e).length ≤ 200) (hr : rightH b.head = true) (hf : -9223372036854775808 ≤ b.frm ∧ b.frm < 9223372036854775807) :
  AC Tryz.prog 61 [batchV b] [] (.sl .ro ((rowsOfB b).map .st)) [] := by
 have k1 := num_c 4 (by decide) (by decide)
 have k2 := num_c 1 (by decide) (by decide)
 have k3 := num_c b.frm (by omega) (by omega)
 have k4 := num_c b.entries.length (by omega) (by omega)
 have k5 := sheadBytes_c b.head
 have k6 := text_c (headB b.head) (by have := Sl.headB_len hr; omega)
 change AC _ _ _ _ (.st (num 4)) _ at k1
 change AC _ _ _ _ (.st (num 1)) _ at k2
 have hre : ∀ e : It.Entry, num 4 ++ text (entryB e) = rowE e := fun _ => rfl
 have hrh : num 1 ++ text (headB b.head) ++ numI b.frm ++ numI b.entries.length = rowH b.head b.frm b.entries.length := rfl
 have hsz := entries_sz b.entries
 unfold rowsOfB
 refine AC.enter2 [75, 74, 114, 81] [] Tryz.func61 rfl (by decide) (by decide) (Nat.le_of_ble_eq_true rfl) (by kernel_rfl) ?_; refine zev ?_
 refine run ?_
 refine loop_mk (fun m e S => e 1 = .ptr 0 0 ∧ e 12 = entriesV b.entries ∧ e 13 = .it .i64 (b.entries.length : Int) ∧ ∃ (k : Nat) (acc : List By) (T : Store), e 14 = .it .i64 (k : Int) ∧ e 3 = .sl (.own 1) (acc.map .st) ∧ S = .cells [.it .i64 b.head.server, .it .i64 b.head.size, .st b.head.root, .it .i64 b.head.time, .it .i64 b.head.sig.e, .it .i64 b.head.sig.s, .it .i64 b.frm, entriesV b.entries] :: .buf acc.length 9 1 :: T ∧ acc = (b.entries.take k).map rowE ∧ k ≤ b.entries.length ∧ m = b.entries.length - k) b.entries.length
  ⟨zsl, zsl, zsl, 0, [], [], zsl, zsl, rfl, by simp, by omega, rfl⟩ ?_
 rintro m e S ⟨s1, s12, s13, k, acc, T, s14, s3, rfl, hacc, hk, rfl⟩
 have hT1 : ∀ y : SObj, (T ++ [y])[T.length]? = some y := fun y => by simp
 have hT2 : ∀ y z : SObj, (T ++ [y]).set T.length z = T ++ [z] := fun y z => by simp
 have hal : acc.length = k := by rw [hacc, List.length_map, List.length_take, Nat.min_eq_left hk]
 by_cases hlt : k < b.entries.length
 ·have hg : b.entries[k]? = some b.entries[k] := List.getElem?_eq_getElem hlt
  have hzk := hz b.entries[k] (List.getElem_mem hlt)
  have hsk := hs b.entries[k] (List.getElem_mem hlt)
  have hst : acc ++ [rowE b.entries[k]] = (b.entries.take (k + 1)).map rowE := by rw [List.take_succ_eq_append_getElem hlt, List.map_append, ← hacc]; rfl
  generalize b.entries[k] = x at *
  have kx := entryBytes_c x hzk
  have ky := text_c (entryB x) (by omega)
  have hrx := hre x
  have hc4 : (num 4).length = 1 := rfl
  have htx := Sl.text_le hsk (by omega)
  generalize num 4 = c4 at *
  generalize text (entryB x) = tx at *
  generalize entryB x = bx at *
  refine runf (an @s1 (an @s12 (an @s13 (an @s14 (an @s3 (an @hg (an @hsz (an @hT1 @hT2)))))))) ?_
  refine cp k1 ?_
  refine runf (an @s1 (an @s12 (an @s13 (an @s14 (an @s3 (an @hT1 @hT2)))))) ?_
  refine cp kx ?_
  refine runf (an @s1 (an @s12 (an @s13 (an @s14 (an @s3 (an @hT1 @hT2)))))) ?_
  refine cp ky ?_
  refine runf (an @s1 (an @s12 (an @s13 (an @s14 (an @s3 (an @hrx (an @hT1 @hT2))))))) ?_
  exact round_mk (b.entries.length - (k + 1)) (by omega) ⟨zsl, zsl, zsl, k + 1, acc ++ [rowE x], _, zsl, by rw [List.map_append]; exact zsl, by rw [List.length_append]; rfl, hst, by omega, rfl⟩
 ·obtain rfl : k = b.entries.length := by omega
  rw [List.take_length] at hacc
  rw [← hacc, List.map_append]
  have hc1 : (num 1).length = 1 := rfl
  have hth := Sl.text_le (Sl.headB_len hr) (by omega)
  have hn1 := numI_le b.frm (by omega)
  have hn2 := numI_le b.entries.length (by omega)
  generalize rowH b.head b.frm b.entries.length = rh at *
  generalize num 1 = c1 at *
  generalize numI b.frm = nf at *
  generalize numI b.entries.length = nl at *
  generalize text (headB b.head) = th at *
  generalize headB b.head = hb at *
  refine runf (an @s1 (an @s12 (an @s13 (an @s14 @s3)))) ?_
  refine cp k2 ?_
  refine runf (an @s1 (an @s12 (an @s13 (an @s14 @s3)))) ?_
  refine cp k5 ?_
  refine runf (an @s1 (an @s12 (an @s13 (an @s14 @s3)))) ?_
  refine cp k6 ?_
  refine runf (an @s1 (an @s12 (an @s13 (an @s14 @s3)))) ?_
  refine cp k3 ?_
  refine runf (an @s1 (an @s12 (an @s13 (an @s14 @s3)))) ?_
  refine cp k4 ?_
  refine runf (an @s1 (an @s12 (an @s13 (an @s14 (an @s3 @hrh))))) ?_
  exact er0w
end Go.Proofs.YtleljbiejeofgaaGreatDoor.Pe
end
section
namespace Go.Proofs.YtleljbiejeofgaaGreatDoor.Pe
open Go Go.RowKit Co Sg Ac It Sl
set_option maxRecDepth 100000
set_option maxHeartbeats 4000000
theorem eclone_c (L : List It.Entry) (h0 : L ≠ []) (hl : L.length ≤ 100000) : AC Tryz.prog 89 [entriesV L] [] (.wr 0 L.length none) [.row (flat (L.map entryV)) 92 50] := by
 obtain ⟨x, l, rfl⟩ := List.exists_cons_of_ne_nil h0
 show AC _ _ [.sl .ro ((x :: l).map entryV)] _ _ _
 have hs1 : allSz 50 ((x :: l).map entryV) = true := entries_sz _
 have hft : fits ((x :: l).map entryV).length 800 = true := by rw [List.length_map]; apply fits_ok <;> omega
 have hfl : (flat ((x :: l).map entryV)).length = (x :: l).length * 50 := by rw [flat_len entryV 50 (fun _ => rfl)]
 have hok : (flat ((x :: l).map entryV)).all (AV.o1 0) = true := flat_ok _ (fun _ => rfl) _
 simp only [List.map_cons, List.length_cons] at hs1 hfl hok hft hl ⊢
 refine AC.enter4 [] [] [(3, ([], [], [7]))] [] Tryz.func89 rfl (by decide) (by decide) (Nat.le_of_ble_eq_true rfl) (by kernel_rfl) ?_; simp only [eraseC, eraseG, eraseO, List.map_cons, List.map_nil, List.map_toArray, List.getElem?_toArray, List.getElem?_cons_zero, List.getElem?_cons_succ, Option.bind_some, Option.bind_none, List.append_eq, List.cons_append, List.nil_append, eraseC4, eraseC3, hasSp, ordOf, List.isEmpty_nil, List.isEmpty_cons, Bool.and_true, Bool.and_false, Bool.and_self, Bool.false_and, Bool.true_and, List.lookup, Nat.reduceBEq, beq_self_eq_true, List.head?_cons, List.head?_nil, Option.some_beq_some, Option.none_beq_some, Option.isSome_some, Option.isSome_none, Bool.or_true, Bool.true_or, Bool.or_false, Bool.not_true, Bool.not_false, Bool.false_eq_true, if_true, if_false, ↓reduceIte, List.size_toArray, List.length_cons, List.length_nil, List.range_succ_eq_map, List.range_zero, Nat.reduceAdd, List.filterMap_cons, List.filterMap_nil]
 refine runf4 (an @hs1 @hfl) ?_
 refine wk0 ?_; refine run4 ?_
 repeat (first | refine k4 ?_ (hk := fun _ h => nomatch h) | refine k4r ?_ | (refine a4r ?_; refine runf4 (an @hs1 @hfl) ?_) | (refine a4 ?_; refine runf4 (an @hs1 @hfl) ?_)); try refine runf4 (an @hs1 @hfl) ?_
 refine p4 (by (conv => lhs; simp -implicitDefEqProofs (maxSteps := 4000000) (disch := (first | omega | (simp only [List.length_append, List.length_cons, List.length_map, List.length_nil, List.length_take, List.length_drop]; omega))) only [AppF_append, AppF_lit, aLitW, aAppW, ↓zpre, zpost, cst1, ↓reduceIte, Nat.reduceEqDiff, Nat.reduceAdd, Nat.reduceLT, Nat.reduceLeDiff, Nat.reduceMul, Nat.reduceSub, Int.reduceToNat, Int.reduceAdd, Int.reduceSub, Int.reduceMul, Int.reduceNeg, Int.reduceLE, Int.reduceLT, Int.reduceEq, Int.reduceBEq, Int.reduceBNe, Nat.reduceBEq, Nat.reduceBNe, aBin, aEq, aEqF, aNilEq, aInt, aStr, aUn, aConv, aNil, aFldAddr, aFld, aIdxAddr, aIdx, aBui, aLoad, aStore, aLits, aLit, aMake, aMakeW, aMapSet, aLook, kfind, keq, kok, lookOut, aMk, aRange, aNext, aBytes, aApp, srcOf, aSlice, aBound, modeCut, apart, aFill, aval, aGd, zobj, zfr, ACall, AV.wk, AV.wk2, AV.wk1, AV.cells, AV.solid, AV.ro, AV.ro1, ← List.map_take, ← List.map_drop, reduceCtorEq, Option.isNone_some, Option.isSome_none, tf0, tf1, tf2, tf3, tf4, tf5, tf6, tf7, tf8, tf9, tf10, tf11, tf12, tf13, tf14, tf15, tf16, tf17, tf20, tf21, tf23, tf24, tf25, tf26, tf27, tf28, tf31, hs1, hfl, hft]); try rfl) ?_ (hk' := fun _ h => nomatch h)
 repeat (first | refine k4 ?_ (hk := fun _ h => nomatch h) | refine k4r ?_ | (refine a4r ?_; refine runf4 (an @hs1 @hfl) ?_) | (refine a4 ?_; refine runf4 (an @hs1 @hfl) ?_)); try refine runf4 (an @hs1 @hfl) ?_
 have hok1 : SObj.ok 1 (.row (flat (entryV x :: l.map entryV)) 92 50) = true := List.all_eq_true.2 fun v hv => o1_mono (List.all_eq_true.1 hok v hv) (Nat.zero_le 1)
 exact ends_ret [0] (by rfl) (subOk_one 0 hok1 (by rw [sren0 (o := .row (flat (entryV x :: l.map entryV)) 92 50) hok]; rfl)) (by rfl) (by rfl) (by rfl)
theorem row_item (l : List It.Entry) (k : Nat) (x : It.Entry) (hx : l[k]? = some x) : ((flat (l.map entryV)).drop (k * 50 + 1)).take 49 = itemL x.item ∧ aSet (flat (l.map entryV)) (k * 50 + 1) (itemL x.item) = flat (l.map entryV) := by
 have hk := (List.getElem?_eq_some_iff.1 hx).1
 have hs : l = l.take k ++ x :: l.drop (k + 1) := by
  have h1 : l.drop k = x :: l.drop (k + 1) := by rw [List.drop_eq_getElem_cons hk, (List.getElem?_eq_some_iff.1 hx).2]
  rw [← h1, List.take_append_drop]
 have hA : (flat ((l.take k).map entryV)).length = k * 50 := by rw [flat_len entryV 50 (fun _ => rfl), List.length_take, Nat.min_eq_left (by omega)]
 have hF : flat (l.map entryV) = flat ((l.take k).map entryV) ++ (.it .i64 x.time :: (itemL x.item ++ flat ((l.drop (k + 1)).map entryV))) := by
  calc flat (l.map entryV) = flat ((l.take k ++ x :: l.drop (k + 1)).map entryV) := by rw [← hs]
   _ = _ := by rw [List.map_append, flat_append, List.map_cons]; rfl
 have hI : (itemL x.item).length = 49 := rfl
 rw [hF]
 generalize itemL x.item = I at *
 generalize flat ((l.take k).map entryV) = A at *
 generalize flat ((l.drop (k + 1)).map entryV) = B at *
 have d1 : (A ++ .it .i64 x.time :: (I ++ B)).drop (k * 50 + 1) = I ++ B := by
  rw [List.drop_append, List.drop_eq_nil_of_le (by omega), List.nil_append, hA, Nat.add_sub_cancel_left]
  rfl
 have t1 : (A ++ .it .i64 x.time :: (I ++ B)).take (k * 50 + 1) = A ++ [.it .i64 x.time] := by
  rw [List.take_append, List.take_of_length_le (by omega), hA, Nat.add_sub_cancel_left]
  rfl
 refine ⟨by rw [d1, List.take_append_of_le_length (by omega), List.take_of_length_le (by omega)], ?_⟩
 unfold aSet
 rw [t1, ← List.drop_drop, d1, List.drop_append, List.drop_eq_nil_of_le (Nat.le_refl _), List.nil_append, Nat.sub_self, List.drop_zero]
 simp
theorem ends_frz {P : Program} [Tab] {rs : List ResultVar} {e : Env} {S : Store} (d l : Nat) {n sz : Nat} {cs es : List AV} {ty : TypeId} (hcs : cs = flat es) (hn : n = es.length) (hsz : allSz sz es = true) (hok : cs.all (AV.o1 0) = true)
  (h : aRes P rs (upd e d (.sl .ro es)) (S.set l .dead) = some [.sl .ro es]) (hd : e d = .wr l n none := by rfl) (hS : S[l]? = some (.row cs ty sz) := by rfl) : finQ P rs 0 (.sl .ro es) [] .ret e S :=
 ends_retW _ _ (Weak.frz 0 d l n hd hS hcs hn hsz hok) [] h ⟨List.nodup_nil, rfl, fun i o hi => by cases hi⟩ rfl rfl rfl
structure Cz (i : It.Item) : Prop where
 to : i.act.to.length ≤ 1000000
 wraps : i.act.wraps.length ≤ 1000000
 dec : i.decision.to.length ≤ 1000000
theorem icopy_c (i : It.Item) (h : Cz i) : AC Tryz.prog 90 [itemV i] [] (itemV i) [] := icopyI_c i h.to h.wraps h.dec
theorem ecopy_c (L : List It.Entry) (h0 : L ≠ []) (hl : L.length ≤ 100000) (hz : ∀ e ∈ L, Cz e.item) : AC Tryz.prog 44 [entriesV L] [] (entriesV L) [] := by
 have k0 := eclone_c L h0 hl
 have hrow := fun k x hx => row_item L k x hx
 have hF : (flat (L.map entryV)).length = L.length * 50 := flat_len entryV 50 (fun _ => rfl) L
 have hszL := entries_sz L
 have hok : (flat (L.map entryV)).all (AV.o1 0) = true := flat_ok _ (fun _ => rfl) _
 have hcs : flat (L.map entryV) = flat (L.map entryV) := rfl
 generalize hFe : flat (L.map entryV) = F at k0 hF hok hrow
 clear hcs
 refine AC.enter2 [90] [] Tryz.func44 rfl (by decide) (by decide) (Nat.le_of_ble_eq_true rfl) (by kernel_rfl) ?_; refine zev ?_
 refine run ?_
 refine call_mk k0 ?_
 refine run ?_
 refine loop_mk (fun m e S => e 0 = .wr 0 L.length none ∧ e 7 = .it .i64 (L.length : Int) ∧ S = [.row F 92 50] ∧ ∃ k : Nat, e 8 = .it .i64 (k : Int) ∧ k ≤ L.length ∧ m = L.length - k) L.length ⟨zsl, zsl, rfl, 0, zsl, by omega, rfl⟩ ?_
 rintro m e S ⟨s0, s7, rfl, k, s8, hk, rfl⟩
 by_cases hlt : k < L.length
 ·have hg : L[k]? = some L[k] := List.getElem?_eq_getElem hlt
  obtain ⟨r1, r2⟩ := hrow k _ hg
  have ky := icopy_c L[k].item (hz _ (List.getElem_mem hlt))
  generalize L[k] = y at *
  have hb : k * 50 + 1 + 49 ≤ L.length * 50 := by omega
  have hlt' : (k : Int) < (L.length : Int) := by omega
  refine runf (an @s0 (an @s7 (an @s8 (an @r1 (an @hF (an @hb @hlt')))))) ?_
  refine cp ky ?_
  refine runf (an @s0 (an @s7 (an @s8 (an @r1 (an @r2 (an @hF (an @hb @hlt'))))))) ?_
  exact round_mk (L.length - (k + 1)) (by omega) ⟨zsl, zsl, rfl, k + 1, zsl, by omega, rfl⟩
 ·obtain rfl : k = L.length := by omega
  refine runf (an @s0 (an @s7 @s8)) ?_
  exact ends_frz 2 0 hFe.symm (by rw [List.length_map]) hszL hok (by rfl) (by rfl) (by rfl)
theorem bcopy_c (b : Batch) (h0 : b.entries ≠ []) (hl : b.entries.length ≤ 100000) (hz : ∀ e ∈ b.entries, Cz e.item) : AC Tryz.prog 57 [batchV b] [] (batchV b) [] := by
 have k := ecopy_c b.entries h0 hl hz
 refine AC.enter2 [44] [] Tryz.func57 rfl (by decide) (by decide) (Nat.le_of_ble_eq_true rfl) (by kernel_rfl) ?_; refine zev ?_
 refine run ?_
 refine cp k ?_
 refine run ?_
 exact er0w
end Go.Proofs.YtleljbiejeofgaaGreatDoor.Pe
end
section
namespace Go.Proofs.YtleljbiejeofgaaGreatDoor.Pe
open Go Go.RowKit Co Sg Ac It Sl Wl
set_option maxRecDepth 100000
set_option maxHeartbeats 4000000
structure Bx where
 ps : List Int
 d : Dm.Dk
 rows : List By
 m1 : Mirror
 m2 : Mirror
 pf : Option Evidence
 c1 : Int
 c2 : Int
 lo : Bool
abbrev mirC (m : Mirror) : List AV := [.it .i64 m.server, entriesV m.entries, headsV m.heads]
def pfV : Option Evidence → List (AV × AV)
 | none => []
 | some e => [(.it .i64 1, evV e)]
theorem pfV_ok (n : Nat) (p : Option Evidence) : (SObj.map (pfV p)).ok n = true := by cases p <;> rfl
theorem pfV_ren (ρ : Nat → Nat) (p : Option Evidence) : (SObj.map (pfV p)).ren ρ = .map (pfV p) := by cases p <;> rfl
abbrev XB (b : Bx) : Store :=
 [XD b.d, .cells [.ptr 0 0, .it .i64 2, .sl (.own 2) (b.rows.map .st)], .buf b.rows.length 9 1,
 .cells [.ptr 0 0, .ptr 1 0, intsV b.ps, .it .i64 0, .wr 4 3 none, .mp 5, .mp 6, .ws 7 0 3 3, .bo b.lo],
 .row [.it .i64 0, .sl .ro [], .sl .ro [], .it .i64 b.m1.server, entriesV b.m1.entries, headsV b.m1.heads, .it .i64 b.m2.server, entriesV b.m2.entries, headsV b.m2.heads] 58 3,
 .map (pfV b.pf), .map [], .cells [.it .i64 0, .it .i64 b.c1, .it .i64 b.c2]]
theorem xb_sub (b : Bx) (T : Store) : SubOk (List.range 8) (XB b ++ T) (XB b) := ⟨by decide, rfl, fun i o hi => by
 match i, hi with
 | 0, hi => cases hi; exact ⟨rfl, rfl⟩
 | 1, hi => cases hi; exact ⟨rfl, rfl⟩
 | 2, hi => cases hi; exact ⟨rfl, rfl⟩
 | 3, hi => cases hi; exact ⟨rfl, rfl⟩
 | 4, hi => cases hi; exact ⟨rfl, rfl⟩
 | 5, hi => cases hi; exact ⟨pfV_ok _ _, congrArg some (pfV_ren _ _).symm⟩
 | 6, hi => cases hi; exact ⟨rfl, rfl⟩
 | 7, hi => cases hi; exact ⟨rfl, rfl⟩⟩
theorem xb_ok (b : Bx) : ∀ (i : Nat) (o : SObj), (XB b)[i]? = some o → o.ok 8 = true := fun i o hi => by
 match i, hi with
 | 0, hi => cases hi; rfl
 | 1, hi => cases hi; rfl
 | 2, hi => cases hi; rfl
 | 3, hi => cases hi; rfl
 | 4, hi => cases hi; rfl
 | 5, hi => cases hi; exact pfV_ok _ _
 | 6, hi => cases hi; rfl
 | 7, hi => cases hi; rfl
theorem xb_same (b : Bx) : SubOk (List.range 8) (XB b) (XB b) := by
 have := xb_sub b []
 rwa [List.append_nil] at this
theorem xb_log (b : Bx) (T : Store) : LgAt (XB b ++ T) 0 1 2 b.d 2 b.rows := ⟨by decide, by decide, by decide, rfl, rfl, rfl⟩
theorem xb_ren (ρ : Nat → Nat) (b : Bx) (h : ∀ i < 8, ρ i = i) : (XB b).map (fun o => SObj.ren ρ o) = XB b := by
 have e0 := h 0 (by decide)
 have e1 := h 1 (by decide)
 have e2 := h 2 (by decide)
 have e4 := h 4 (by decide)
 have e5 := h 5 (by decide)
 have e6 := h 6 (by decide)
 have e7 := h 7 (by decide)
 show [_, SObj.cells [.ptr (ρ 0) 0, _, .sl (.own (ρ 2)) _], _, SObj.cells [.ptr (ρ 0) 0, .ptr (ρ 1) 0, _, _, .wr (ρ 4) 3 none, .mp (ρ 5), .mp (ρ 6), .ws (ρ 7) 0 3 3, _], _, SObj.ren ρ (.map (pfV b.pf)), _, _] = _
 rw [pfV_ren, e0, e1, e2, e4, e5, e6, e7]
 rfl
theorem AC.bx {P : Program} [Tab] {F : FuncId} {args : List AV} {v : AV} {b b' : Bx} (h : AC P F args (XB b) v (XB b')) (T : Store)
  (ha : args.all (AV.ok 8) = true := by rfl) (hi : args.map (AV.ren (idx (List.range 8))) = args := by rfl) (hv : v.ok 8 = true := by rfl) (hr : v.ren (ext (List.range 8) (XB b ++ T).length) = v := by rfl) :
  AC P F args (XB b ++ T) v (XB b' ++ T) := by
 have q := h.frame (T := (XB b ++ T : Store)) (List.range 8) (xb_sub b T) ha hv (xb_ok _)
 rw [hi, hr] at q
 have e : after (List.range 8) (XB b ++ T : Store) (XB b') = (XB b' ++ T : Store) := by
  unfold after
  have h1 : (XB b').map (fun o => SObj.ren (ext (List.range 8) (XB b ++ T : Store).length) o) = XB b' := xb_ren _ b' (fun i hi => by
   match i, hi with
   | 0, _ => rfl
   | 1, _ => rfl
   | 2, _ => rfl
   | 3, _ => rfl
   | 4, _ => rfl
   | 5, _ => rfl
   | 6, _ => rfl
   | 7, _ => rfl)
  rw [h1]
  show setAll _ _ _ ++ [] = _
  rw [List.append_nil]
  rfl
 rwa [e] at q
end Go.Proofs.YtleljbiejeofgaaGreatDoor.Pe
end
section
namespace Go.Proofs.YtleljbiejeofgaaGreatDoor.Pe
open Go Go.RowKit Co Sg Ac It Sl Wl
set_option maxRecDepth 100000
set_option maxHeartbeats 4000000
theorem iserver_c (b : Bx) (hp : b.ps.length = 3) (s : Int) : AC Tryz.prog 69 [.ptr 3 0, .it .i64 s] (XB b) (.bo (decide (0 ≤ s ∧ s < 3))) (XB b) := by
 obtain ⟨ps, d, rows, m1, m2, pf, c1, c2, lo⟩ := b
 simp only at hp
 refine AC.enter2 [] [] Tryz.func69 rfl (by decide) (by decide) (Nat.le_of_ble_eq_true rfl) (by kernel_rfl) ?_; refine zev ?_
 by_cases h0 : 0 ≤ s
 ·by_cases h1 : s < (ps.length : Int)
  ·rw [decide_eq_true ⟨h0, by omega⟩]
   refine runf (an @h0 @h1) ?_
   exact ends_ret (List.range 8) (by rfl) (xb_same _) (by rfl) (by rfl) (by rfl)
  ·rw [decide_eq_false (by omega)]
   refine runf (an @h0 @h1) ?_
   exact ends_ret (List.range 8) (by rfl) (xb_same _) (by rfl) (by rfl) (by rfl)
 ·rw [decide_eq_false (by omega)]
  refine runf @h0 ?_
  exact ends_ret (List.range 8) (by rfl) (xb_same _) (by rfl) (by rfl) (by rfl)
theorem iother_c (b : Bx) (hp : b.ps.length = 3) (s : Int) : AC Tryz.prog 29 [.ptr 3 0, .it .i64 s] (XB b) (.bo (decide (s = 1 ∨ s = 2))) (XB b) := by
 have k := iserver_c b hp s
 obtain ⟨ps, d, rows, m1, m2, pf, c1, c2, lo⟩ := b
 simp only at hp
 refine AC.enter2 [] [69] Tryz.func29 rfl (by decide) (by decide) (Nat.le_of_ble_eq_true rfl) (by kernel_rfl) ?_; refine zev ?_
 by_cases h0 : 0 ≤ s ∧ s < 3
 ·rw [decide_eq_true h0] at k
  by_cases h1 : s = 0
  ·subst h1
   rw [decide_eq_false (by omega)]
   refine run ?_
   refine call_mk ⟨fun R => AC.bx k R, rfl⟩ ?_
   refine run ?_
   exact ends_ret (List.range 8) (by rfl) (xb_same _) (by rfl) (by rfl) (by rfl)
  ·rw [decide_eq_true (by omega)]
   have q : (s != 0) = true := bneT h1
   refine run ?_
   refine call_mk ⟨fun R => AC.bx k R, rfl⟩ ?_
   refine runf @q ?_
   exact ends_ret (List.range 8) (by rfl) (xb_same _) (by rfl) (by rfl) (by rfl)
 ·rw [decide_eq_false h0] at k
  rw [decide_eq_false (by omega)]
  refine run ?_
  refine call_mk ⟨fun R => AC.bx k R, rfl⟩ ?_
  refine run ?_
  exact ends_ret (List.range 8) (by rfl) (xb_same _) (by rfl) (by rfl) (by rfl)
theorem iconv_c (b : Bx) (s : Int) : AC Tryz.prog 58 [.ptr 3 0, .it .i64 s] (XB b) (.bo (b.pf.isSome && decide (s = 1))) (XB b) := by
 obtain ⟨ps, d, rows, m1, m2, pf, c1, c2, lo⟩ := b
 cases pf with
 | none =>
  have hpf : pfV none = [] := rfl
  refine AC.enter2 [] [] Tryz.func58 rfl (by decide) (by decide) (Nat.le_of_ble_eq_true rfl) (by kernel_rfl) ?_; refine zev ?_
  refine runf @hpf ?_
  exact ends_ret (List.range 8) (by rfl) (xb_sub ⟨ps, d, rows, m1, m2, none, c1, c2, lo⟩ _) (by rfl) (by rfl) (by rfl)
 | some e =>
  have hpf : pfV (some e) = [(.it .i64 1, evV e)] := rfl
  by_cases h : s = 1
  ·subst h
   refine AC.enter2 [] [] Tryz.func58 rfl (by decide) (by decide) (Nat.le_of_ble_eq_true rfl) (by kernel_rfl) ?_; refine zev ?_
   refine runf @hpf ?_
   exact ends_ret (List.range 8) (by rfl) (xb_sub ⟨ps, d, rows, m1, m2, some e, c1, c2, lo⟩ _) (by rfl) (by rfl) (by rfl)
  ·have q : (s == 1) = false := beq_eq_false_iff_ne.2 h
   have q' : ((1 : Int) == s) = false := beq_eq_false_iff_ne.2 (Ne.symm h)
   rw [decide_eq_false h]
   refine AC.enter2 [] [] Tryz.func58 rfl (by decide) (by decide) (Nat.le_of_ble_eq_true rfl) (by kernel_rfl) ?_; refine zev ?_
   refine runf (an @q (an @q' @hpf)) ?_
   exact ends_ret (List.range 8) (by rfl) (xb_sub ⟨ps, d, rows, m1, m2, some e, c1, c2, lo⟩ _) (by rfl) (by rfl) (by rfl)
theorem isettle_c (b : Bx) {d' : Dm.Dk} (hf : Dm.flushD b.d 2 = (0, d')) : AC Tryz.prog 31 [.ptr 3 0] (XB b) (.it .i64 0) (XB { b with d := if b.lo then d' else b.d, lo := false }) := by
 have kw := wflush_c b.d 2 b.rows
 rw [hf] at kw
 obtain ⟨ps, d, rows, m1, m2, pf, c1, c2, lo⟩ := b
 simp only at kw ⊢
 cases lo with
 | false =>
  refine AC.enter2 [] [] Tryz.func31 rfl (by decide) (by decide) (Nat.le_of_ble_eq_true rfl) (by kernel_rfl) ?_; refine zev ?_
  refine run ?_
  exact ends_ret (List.range 8) (by rfl) (xb_same _) (by rfl) (by rfl) (by rfl)
 | true =>
  refine AC.enter2 [] [] Tryz.func31 rfl (by decide) (by decide) (Nat.le_of_ble_eq_true rfl) (by kernel_rfl) ?_; refine zev ?_
  refine run ?_
  refine clg 0 1 2 kw ?_
  refine run ?_
  exact ends_ret (List.range 8) (by rfl) (xb_same ⟨ps, d', rows, m1, m2, pf, c1, c2, false⟩) (by rfl) (by rfl) (by rfl)
theorem keepD_snoc : ∀ (l : List By) (d : Dm.Dk) (r : By), keepD d (l ++ [r]) = (addD (keepD d l) 2 r).2
 | [], _, _ => rfl
 | x :: l, d, r => keepD_snoc l (addD d 2 x).2 r
theorem ikeep_c (b : Bx) (l : List By) {N B : Nat} (hd : Sl.CD b.d N) (hr : b.rows.length + l.length ≤ 16777216) (hB : B ≤ 100000) (hl : ∀ r ∈ l, r.length ≤ B) (hN : N + l.length * (B + 13) ≤ 16777216) :
  AC Tryz.prog 60 [.ptr 3 0, .sl .ro (l.map .st)] (XB b) (.it .i64 0) (XB { b with d := keepD b.d l, rows := b.rows ++ l, lo := b.lo || !l.isEmpty }) := by
 obtain ⟨ps, d, rows, m1, m2, pf, c1, c2, lo⟩ := b
 simp only at hd hr ⊢
 have hsz : allSz 1 (l.map AV.st) = true := allSz_map 1 _ (fun _ => rfl) _
 refine AC.enter2 [] [] Tryz.func60 rfl (by decide) (by decide) (Nat.le_of_ble_eq_true rfl) (by kernel_rfl) ?_; refine zev ?_
 refine run ?_
 refine loop_mk (fun m e S => e 0 = .ptr 3 0 ∧ e 8 = .sl .ro (l.map .st) ∧ e 9 = .it .i64 (l.length : Int) ∧ ∃ (k : Nat) (dk : Dm.Dk) (rk : List By) (T : Store), e 10 = .it .i64 (k : Int) ∧ S = XB ⟨ps, dk, rk, m1, m2, pf, c1, c2, lo || !(l.take k).isEmpty⟩ ++ T ∧ dk = keepD d (l.take k) ∧ rk = rows ++ l.take k ∧ k ≤ l.length ∧ m = l.length - k) l.length
  ⟨zsl, zsl, zsl, 0, d, rows, [], zsl, by simp, rfl, by simp, by omega, rfl⟩ ?_
 rintro m e S ⟨s0, s8, s9, k, dk, rk, T, s10, rfl, hdk, hrk, hk, rfl⟩
 by_cases hlt : k < l.length
 ·have hg : l[k]? = some l[k] := List.getElem?_eq_getElem hlt
  have hx := hl l[k] (List.getElem_mem hlt)
  have htk : l.take (k + 1) = l.take k ++ [l[k]] := List.take_succ_eq_append_getElem hlt
  have hlk : (l.take k).length = k := by rw [List.length_take, Nat.min_eq_left hk]
  have hm : k * (B + 13) + (B + 13) ≤ l.length * (B + 13) := by rw [← Nat.succ_mul]; exact Nat.mul_le_mul_right _ hlt
  have hc : Sl.CD dk (N + k * (B + 13)) := by
   have := Sl.CD.keep hB (l.take k) hd (fun r h => hl r (List.mem_of_mem_take h)) (by rw [hlk]; omega)
   rw [hlk, ← hdk] at this
   exact this
  obtain ⟨d', ha, hc'⟩ := hc.add (s := l[k]) (by omega) (by omega)
  have hd' : d' = keepD d (l.take (k + 1)) := by rw [htk, keepD_snoc, ← hdk, ha]
  have hr' : rk ++ [l[k]] = rows ++ l.take (k + 1) := by rw [htk, hrk, List.append_assoc]
  have hre : (lo || !(l.take (k + 1)).isEmpty) = true := by rw [htk]; simp; exact .inr (List.ne_nil_of_length_pos (by omega))
  have hrl : rk.length ≤ 16777216 := by rw [hrk, List.length_append, hlk]; omega
  generalize l[k] = x at *
  have ka := wadd_c dk 2 rk x (by omega) hrl
  rw [ha] at ka
  simp only [if_pos] at ka
  refine runf (an @s0 (an @s8 (an @s9 (an @s10 (an @hg @hsz))))) ?_
  refine clg 0 1 2 ka ?_ (hl := xb_log ⟨ps, dk, rk, m1, m2, pf, c1, c2, lo || !(l.take k).isEmpty⟩ _)
  refine runf (an @s0 (an @s8 (an @s9 @s10))) ?_
  exact round_mk (l.length - (k + 1)) (by omega) ⟨zsl, zsl, zsl, k + 1, d', rk ++ [x], T, zsl, by rw [hre]; (first | (rw [show (rk ++ [x]).length = rk.length + 1 from by simp]; done) | (rw [show (rk ++ [x]).length = rk.length + 1 from by simp]; rfl) | (simp only [List.length_append, List.length_cons, List.length_nil, Nat.zero_add]; done) | (simp only [List.length_append, List.length_cons, List.length_nil, Nat.zero_add]; rfl)), hd', hr', by omega, rfl⟩
 ·obtain rfl : k = l.length := by omega
  rw [List.take_length] at hdk hrk
  rw [List.take_length, ← hdk, ← hrk]
  refine runf (an @s0 (an @s8 (an @s9 @s10))) ?_
  exact ends_ret (List.range 8) (by rfl) (xb_sub ⟨ps, dk, rk, m1, m2, pf, c1, c2, lo || !l.isEmpty⟩ _) (by rfl) (by rfl) (by rfl)
end Go.Proofs.YtleljbiejeofgaaGreatDoor.Pe
end
section
namespace Go.Proofs.YtleljbiejeofgaaGreatDoor.Pe
open Go Go.RowKit
variable [Tab]
set_option maxRecDepth 100000
theorem run_clear {P : Program} {t el ty : TypeId} {zv : Value} {i : TypeInfo} (w w' : World) (b off n c : Nat) (ht : P.underlying t = some (.slice el)) (hi : P.info? el = some i) (hz : i.zero = some zv) (hn : 0 < n)
  (hs : (storeCells ⟨b, off, none⟩ (Builtin.zeroCells zv.cells n).toList).run P w = .ok () w') :
  (Builtin.clear_ #[t] ty #[.slice (some ⟨b, off, none⟩) n c]).run P w = .ok (.tuple #[]) w' := by
 obtain ⟨m, rfl⟩ : ∃ m, n = m + 1 := ⟨n - 1, by omega⟩
 simp only [Builtin.clear_, List.getElem?_toArray, List.getElem?_cons_zero, Sem.run_bind, run_underlying ht, Result.andThen_ok, run_zero hi hz, hs, Sem.run_pure]
theorem zeroCells_int (k : IntKind) (n : Nat) : (Builtin.zeroCells (Value.int k 0).cells n).toList = List.replicate n (.int k 0) := by
 refine List.ext_getElem (by simp [Builtin.zeroCells, Value.cells]) fun j h1 h2 => ?_
 simp [Builtin.zeroCells, Value.cells, Nat.mod_one]
theorem cells_zeros (w : World) (g : Gh) (k : IntKind) (n : Nat) : CellsRel w g (List.replicate n (.it k 0)) (List.replicate n (Value.int k 0)).toArray := by
 refine ⟨by simp, fun v hv => ?_, fun j u v hu hv => ?_⟩
 ·have : v = Value.int k 0 := (List.mem_replicate.1 (show v ∈ List.replicate n (Value.int k 0) by simpa using hv)).2
  rw [this]; rfl
 ·have hj := (List.getElem?_eq_some_iff.1 hu).1
  rw [List.length_replicate] at hj
  rw [List.getElem?_replicate, if_pos hj] at hu
  simp only [List.getElem?_toArray, List.getElem?_replicate, if_pos hj] at hv
  cases hu; cases hv
  exact .it _ _ _
theorem does_clear {P : Program} {o : Oper} {e : Env} {S : Store} {t el : TypeId} {x : Operand} {l off n c : Nat} {cs : List AV} {i : TypeInfo} {k : IntKind} (ho : o.op = .call { callee := .builtin .clear, args := #[x], argTypes := #[t] })
  (ht : P.underlying t = some (.slice el)) (hi : P.info? el = some i) (hz : i.zero = some (.int k 0)) (hn : 0 < n) (hxe : ev e x = .ws l off n c) (hS : S[l]? = some (.cells cs)) (hle : off + n ≤ cs.length) :
  Does P o e S (.tup []) (S.set l (.cells (aSet cs off (List.replicate n (.it k 0))))) :=
 does_value fun ρ w g hw hr => by
  have hx := hr x (by rw [ho]; simp [Op.operands, Call.operands])
  obtain ⟨arr, T, fr, h4, h5, hc, hl, hb, hown, hG⟩ := obj_cells hw hS
  rw [hxe] at hx
  generalize hcx : ρ x = cx at hx
  cases hx
  have hu := cells_zeros w g k n
  have hul : (List.replicate n (Value.int k 0)).length = n := List.length_replicate
  have hst := storeCells_fr (P := P) (g.pl l) off T fr (List.replicate n (Value.int k 0)) 0 arr w h4 (.inl h5) (by rw [hul]; have := hc.1; omega) (by intro v hv; rw [(List.mem_replicate.1 hv).2]; rfl)
  simp only [Nat.add_zero] at hst
  have hle' := Le.setRow (w := w) hG (arr.toList.take off ++ List.replicate n (Value.int k 0) ++ arr.toList.drop (off + (List.replicate n (Value.int k 0)).length)).toArray
  have hnew := cells_setRow hc hu (off := off) (by rw [List.length_replicate]; exact hle)
  have hlS : l < S.length := (List.getElem?_eq_some_iff.1 hS).1
  refine ⟨.tuple #[], w.setRow (g.pl l) _, g, ?_, hw.touch hlS hle' rfl (fun _ _ _ => ⟨rfl, rfl, rfl, rfl, rfl⟩) (fun b hb => .inl hb) (by simp) (fun _ _ _ => rfl) (fun b _ hno => ?_) ?_, ?_, ⟨hle', rfl, rfl, rfl, by simp, fun b _ hno => ?_, fun _ _ hk hb _ => ⟨hk, hb⟩, fun _ _ _ => rfl⟩⟩
  ·unfold execOp
   simp only [ho]
   show Sem.run P (do let d ← resolve ρ _ o.type; invoke d.target d.args) w = _
   have hrun := run_clear (P := P) (ty := o.type) w _ (g.pl l) off n c ht hi hz hn (by rw [zeroCells_int]; exact hst)
   simp only [resolve, Sem.run_bind, Sem.run_pure, Result.andThen_ok, invoke, builtin, List.map_toArray, List.map_cons, List.map_nil, hcx, hrun]
  ·exact setRow_other w _ b _ (fun e => hno (by rw [e]; exact hown))
  ·have hnew := hnew.le hle'
   exact ⟨hb, hown, hG, _, T, fr, setRow_heap w (g.pl l) arr _ T fr h4, h5, hnew.1, hnew.2.1, hnew.2.2⟩
  ·exact .tup _ _ _ rfl fun j u v hu hv => by simp at hu
  ·exact setRow_other w _ b _ (fun e => hno l hl (by rw [e]; exact hown))
end Go.Proofs.YtleljbiejeofgaaGreatDoor.Pe
end
section
namespace Go.Proofs.YtleljbiejeofgaaGreatDoor.Pe
open Go Go.RowKit Co Sg Ac It Sl Wl
set_option maxRecDepth 100000
set_option maxHeartbeats 4000000
theorem wpL_app {P : Program} [Tab] {cls : Op → Cls} {ops : Array Oper} {Q : Env → Store → Prop} (rest : List Oper) : ∀ (l : List Oper) (e : Env) (S : Store), wpL P cls ops (wpL P cls ops Q rest) l e S → wpL P cls ops Q (l ++ rest) e S
 | [], _, _, h => h
 | o :: l, e, S, h => by
  simp only [List.cons_append, wpL] at h ⊢
  split at h
  ·obtain ⟨v, S', hx, h⟩ := h
   exact ⟨v, S', hx, wpL_app rest l _ _ h⟩
  ·exact wpL_app rest l _ _ h
  ·exact h
theorem ends_retv {P : Program} [Tab] {rs : List ResultVar} {v : AV} {e : Env} {S S' : Store} {vs : List AV} {N0 : Nat} (κ : List Nat) (h : aRes P rs e S = some vs) (hs : SubOk κ S S') (hn : κ.take N0 = List.range N0) (hk : v.ok κ.length = true) (hv : (resV vs).wk = v.ren (idx κ)) : finQ P rs N0 v S' .ret e S :=
 ⟨e, S, vs, κ, Weak.refl N0 e S, h, hs, hn, hk, .inr hv⟩
theorem iround_c (b : Bx) : AC Tryz.prog 10 [.ptr 3 0] (XB b) (.tup []) (XB { b with c1 := 0, c2 := 0 }) := by
 obtain ⟨ps, d, rows, m1, m2, pf, c1, c2, lo⟩ := b
 obtain ⟨i, hi, hz⟩ : ∃ i, (Tryz.prog).info? 3 = some i ∧ i.zero = some (.int .i64 0) := by
  have h : ((Tryz.prog).info? 3).map (fun i => i.zero) = some (some (.int .i64 0)) := by kernel_rfl
  cases hh : (Tryz.prog).info? 3 with
  | none => rw [hh] at h; cases h
  | some i => rw [hh] at h; exact ⟨i, rfl, Option.some.inj h⟩
 refine AC.of_wp Tryz.func10 rfl (by decide) (Nat.le_of_ble_eq_true rfl) fun w g a hg hc => ?_
 refine region_list (cls := clsOf Tryz.prog [] []) (Q := finQ Tryz.prog [] 8 (.tup []) (XB ⟨ps, d, rows, m1, m2, pf, 0, 0, lo⟩) .norm) (by kernel_rfl) (fun e S a w hc hq => ⟨e, S, hc, hq⟩) hc ?_ none
 refine wpL_app [_] [_, _, _, _] _ _ (wpL_of_ARg (pf := []) (rf := []) [_, _, _, _] _ _ ?_)
 simp only [List.map_cons, List.map_nil, eraseO, eraseC, eraseG, eraseO, List.map_cons, List.map_nil, List.map_toArray, List.getElem?_toArray, List.getElem?_cons_zero, List.getElem?_cons_succ, Option.bind_some, Option.bind_none, List.append_eq, List.cons_append, List.nil_append]
 refine run ?_
 refine ⟨_, _, does_clear (l := 7) (off := 0) (n := 3) (c := 3) (el := 3) (k := .i64) rfl Tryz.underlying22 hi hz (by decide) (by rfl) (by rfl) (by exact Nat.le_refl 3), ?_⟩
 exact ⟨_, _, [], List.range 8, Weak.refl _ _ _, rfl, xb_sub ⟨ps, d, rows, m1, m2, pf, 0, 0, lo⟩ [], rfl, rfl, .inl rfl⟩
end Go.Proofs.YtleljbiejeofgaaGreatDoor.Pe
end
section
namespace Go.Proofs.YtleljbiejeofgaaGreatDoor.Pe
open Go Go.RowKit Co Sg Ac It Sl
set_option maxRecDepth 100000
set_option maxHeartbeats 4000000
def growR : Go.Shelf.Ren := ⟨fun | 4 => 115 | n => n, fun | 3 => 3 | 4 => 4 | 9 => 9 | 22 => 29 | 25 => 92 | n => n, fun | n => n⟩
theorem growE : Go.Proofs.Lays8.n4 Tryz.prog growR := {
 mixed := by kernel_rfl
 f4 := ⟨Tryz.f115.name, by decide, Tryz.func115.trans (congrArg some (by kernel_rfl))⟩
 t0 := Tryz.underlying0
 a0 := Tryz.isAgg0
 z0 := Tryz.sizeOf0
 v0 := Tryz.zeroValue0
 t3 := Tryz.underlying3
 a3 := Tryz.isAgg3
 z3 := Tryz.sizeOf3
 v3 := Tryz.zeroValue3
 t4 := Tryz.underlying4
 a4 := Tryz.isAgg4
 z4 := Tryz.sizeOf4
 v4 := Tryz.zeroValue4
 t9 := Tryz.underlying9
 a9 := Tryz.isAgg9
 z9 := Tryz.sizeOf9
 v9 := Tryz.zeroValue9
 t20 := Tryz.underlying20
 a20 := Tryz.isAgg20
 z20 := Tryz.sizeOf20
 v20 := Tryz.zeroValue20
 t22 := Tryz.underlying29
 a22 := Tryz.isAgg29
 z22 := Tryz.sizeOf29
 v22 := Tryz.zeroValue29 }
theorem lrel_two' {w : World} {g : Gh} {v u : AV} {cargs : Array Value} (h : LRel w g [v, u] cargs) : ∃ cv cu, cargs = #[cv, cu] ∧ Rel w g v cv ∧ Rel w g u cu := by
 obtain ⟨hn, hr⟩ := h
 have hs : cargs.size = 2 := by simpa using hn
 refine ⟨cargs[0], cargs[1], ?_, hr 0 v _ rfl (Array.getElem?_eq_getElem (by omega)), hr 1 u _ rfl (Array.getElem?_eq_getElem (by omega))⟩
 apply Array.ext
 ·simpa using hs
 ·intro i hi hi'
  have : i = 0 ∨ i = 1 := by simp at hi'; omega
  rcases this with rfl | rfl <;> rfl
theorem egrow_c (n : Nat) (h1 : 1 ≤ n) (hn : n ≤ 100000) : AC Tryz.prog 115 [.sl .full [], .it .i64 (n : Int)] [] (.wr 0 0 none) [.row [] 92 50] := by
 refine ⟨by kernel_rfl, fun w g cargs hw hargs => ?_⟩
 obtain ⟨cv, cu, rfl, r1, r2⟩ := lrel_two' hargs
 generalize cu = cu at *
 cases r2
 cases r1 with
 | sl _ _ _ A c sz cu hc hcm hsz hA ho hr hm =>
  obtain rfl : c = 0 := hm
  obtain ⟨ht, hsz0, i, z, hi, hz, hs, hby, hzs⟩ := appOf_spec (P := Tryz.prog) (t := 29) (e := 92) (sz := 50) (by_ := 576) (by kernel_rfl)
  have hcl := Go.Proofs.Any8.slices_Grow_grow growE i z hi hz (by omega) A 0 0 n [] w (Nat.le_refl _) (by omega) (by rw [hby]; omega) (by omega) (by simp) (fun _ => rfl) (fun a _ j v hv => by cases hv)
  refine Calls.mono hcl ?_
  rintro r w' ⟨rfl, rfl⟩
  have hge := grownCap_ge w (0 + n) 0 92
  have hcm' : grownCap w (0 + n) 0 92 ≤ maxLen := grownCap_le_maxLen w _ 0 _ (by simp only [maxLen]; omega)
  obtain ⟨g', h5, h6, h7⟩ := (hw.draw (w.drawn + 1)).new_row (cs := []) (n := 0) (cur := (#[] : Array Value) ++ Builtin.zeroCells z.cells (0 + n - 0) ++ Builtin.zeroCells z.cells (grownCap w (0 + n) 0 92 - (0 + n))) (e := 92) (sz := 50) (cap := grownCap w (0 + n) 0 92) (fr := (0, 0)) (by decide) rfl (Nat.zero_le _) hcm' (by
   simp only [Array.size_append, List.size_toArray, List.length_nil, zeroCells_sz _ _ _ hzs, ← Nat.add_mul]
   omega) (Nat.le_refl _) [] ⟨rfl, fun v hv => by simp at hv, fun j u v hu hv => by simp at hu⟩ (by simp)
  exact ⟨_, g', rfl, h5, h7, (Evo.draw w g _).trans h6⟩
def HW (P : Program) [Tab] (N N0 : Nat) (c : Code) (Q : AX → Env → Store → Prop) (e : Env) (S : Store) : Prop :=
 ∀ (w0 : World) (g0 : Gh) (a : Act) (w : World), g0.nid = N0 → Conc N w0 g0 e S a w → c.wpIn (wR none) 0 P (toQ N w0 g0 Q) a w
section
variable {P : Program} [Tab] {N N0 : Nat} {Q : AX → Env → Store → Prop} {e : Env} {S : Store}
theorem HW.aw (pf rf : List FuncId) {c : Code} (hm : P.follows .mixedOrders = true) (hok : codeOk P pf rf N c = true) (h : AW P pf rf N0 (eraseC c) Q e S) : HW P N N0 c Q e S :=
 fun _ _ _ _ hn hc => AW_ok none (.inl rfl) hm hn Q e S _ _ hok hc h
theorem HW.seq {x y : Code} (h : HW P N N0 x (thenQ Q (HW P N N0 y Q)) e S) : HW P N N0 (.seq x y) Q e S := fun w0 g0 a w hn hc => by
 refine wpIn_seq (Go.wpIn_mono (h w0 g0 a w hn hc) ?_)
 intro ex a' w' hq
 cases ex with
 | normal => obtain ⟨e', S', hc', h'⟩ := hq; exact h' w0 g0 a' w' hn hc'
 | exit id => exact hq
 | ret => exact hq
 | _ => exact hq.elim
theorem HW.reg (pf rf : List FuncId) {id : Nat} {ops : Array Oper} (hds : dstsOk N ops = true) (h : wpL P (clsOf P pf rf) ops (Q .norm) ops.toList e S) : HW P N N0 (.region id ops false) Q e S :=
 fun _ _ _ _ _ hc => region_list hds (fun e S _ _ hc hq => ⟨e, S, hc, hq⟩) hc h none
theorem AC.hw {f : FuncId} {fn : Func} {c : Code} {args : List AV} {S' : Store} {v : AV} (N : Nat) (hf : P.funcs[f]? = some fn) (hb : fn.body = some c) (hname : fn.name ≠ "runtime.NumGoroutine") (hn : args.length ≤ fn.ntmps) (hN : fn.ntmps = N)
  (h : HW P N S.length c (finQ P fn.results.toList S.length v S') (argEnv args) S) : AC P f args S v S' :=
 AC.of_wp hf hb hname hn fun w g a hg hc => by subst hN; exact h w g a w hg hc
end
end Go.Proofs.YtleljbiejeofgaaGreatDoor.Pe
end
section
namespace Go.Proofs.YtleljbiejeofgaaGreatDoor.Pe
open Go Go.RowKit
variable [Tab]
section
variable {P : Program} {pf rf : List FuncId} {ops : Array Oper} {Q : Env → Store → Prop} {fuel : Nat} {listed : Array Bool} {e : Env} {S : Store}
abbrev Rw (P : Program) (pf rf : List FuncId) (ops : Array Oper) (Q : Env → Store → Prop) (fuel : Nat) (listed : Array Bool) (e : Env) (S : Store) : Prop := wpX P (clsOf P pf rf) .any ops Q fuel listed e S
theorem rw_one {o : AO} {K : Env → Store → Prop} (hg : o.gd = none) (h : ARg P pf rf [o] e S K) : AOp P pf rf o.op e S (fun v S' => K (put e o.dst v) S') := by
 rw [ARg] at h
 obtain ⟨b, hb, h⟩ := bindO_spec h
 rw [hg] at hb
 cases hb
 have h := h.1 rfl
 have e1 : (fun v S' => ARg P pf rf [] (put e o.dst v) S' K) = fun v S' => K (put e o.dst v) S' := by funext v S'; rw [ARg]
 rw [e1] at h
 exact h
theorem want_none {o : Oper} (hg : o.guard = none) : aWant ops o e = some true := by unfold aWant; rw [hg]
theorem rw_free (i : Nat) {d : Option Nat} {op : Op} {o : Oper} (hi : ops[i]? = some o) (hd : o.dst = d) (ho : o.op = op) (hg : o.guard = none) (hf : freeC (clsOf P pf rf) .any ops listed i = true) (hr : (Region.ready .any ops listed).contains i = true)
  (h : ARg P pf rf [⟨d, op, none⟩] e S (Rw P pf rf ops Q fuel (listed.setIfInBounds i true))) : wpX P (clsOf P pf rf) .any ops Q (fuel + 1) listed e S := by
 subst hd ho
 obtain ⟨v, S', hx, hK⟩ := AOp_ok (rw_one rfl h)
 exact wpX_first hi fuel listed e S S' (freeC_spec hi hf) (by simpa using hr) (.inl ⟨want_none hg, hx⟩) hK
theorem rw_all (hne : (Region.ready .any ops listed).isEmpty = false) (h : ∀ i ∈ Region.ready .any ops listed, ∃ o : Oper, ops[i]? = some o ∧ o.guard = none ∧ ARg P pf rf [⟨o.dst, o.op, none⟩] e S (Rw P pf rf ops Q fuel (listed.setIfInBounds i true))) :
  wpX P (clsOf P pf rf) .any ops Q (fuel + 1) listed e S := by
 refine ⟨fun h0 => (by rw [h0] at hne; cases hne), fun i hi => ?_⟩
 obtain ⟨o, h1, h2, h3⟩ := h i hi
 obtain ⟨v, S', hx, hK⟩ := AOp_ok (rw_one rfl h3)
 unfold xOp
 simp only [h1, want_none h2]
 exact ⟨v, S', hx, hK⟩
end
end Go.Proofs.YtleljbiejeofgaaGreatDoor.Pe
end
section
namespace Go.Proofs.YtleljbiejeofgaaGreatDoor.Pe
open Go Go.RowKit
variable [Tab]
def KeepR (κ : List Nat) (E e : Env) : Prop := ∀ t, E t = .junk ∨ ((E t).ok κ.length = true ∧ e t = (E t).ren (idx κ))
theorem KeepR.nil (κ : List Nat) (e : Env) : KeepR κ (fun _ => .junk) e := fun _ => .inl rfl
theorem KeepR.cons {κ : List Nat} {E e : Env} (h : KeepR κ E e) (t : Nat) (v u : AV) (hk : v.ok κ.length = true) (hu : v.ren (idx κ) = u) (hv : e t = u) : KeepR κ (upd E t v) e := fun x => by
 unfold upd
 by_cases hx : x = t
 ·rw [if_pos hx, hx]; exact .inr ⟨hk, hv.trans hu.symm⟩
 ·rw [if_neg hx]; exact h x
theorem Weak.sub (N0 : Nat) {E e : Env} {S S' : Store} (κ : List Nat) (hE : KeepR κ E e) (hs : SubOk κ S S') (hκ : κ.take N0 = List.range N0) : Weak N0 e S E S' := by
 rintro N w0 g0 a w hn ⟨h1, h2, g, h3, h4, h5⟩
 refine ⟨h1, h2, g.sub κ, h3.sub hs, fun t => ?_, ⟨h5.toEvo.sub hs.nodup (hs.lt h3) (by rw [hn]; exact hκ), ?_, ?_⟩⟩
 ·rcases hE t with e1 | ⟨e1, e2⟩
  ·rw [e1]; exact .junk _ _
  ·have := h4 t
   rw [e2] at this
   exact Rel.unren (un_sub w g κ) this e1
 ·intro d hd
  obtain ⟨b, k1, k2, k3, k4, k5⟩ := h5.defs d hd
  exact ⟨b, k1, k2, k3, k4, fun l hl ho => k5 (idx κ l) (hs.lt h3 l hl) ho⟩
 ·exact h5.nodup
end Go.Proofs.YtleljbiejeofgaaGreatDoor.Pe
end
