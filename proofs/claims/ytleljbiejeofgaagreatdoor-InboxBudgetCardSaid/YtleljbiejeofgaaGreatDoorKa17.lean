/- Several texts in one, without what this claim does not use (tools/shake.py). -/
import Derived.Test.YtleljbiejeofgaaGreatDoorKa16
set_option linter.unusedSectionVars false
set_option linter.unusedVariables false
set_option linter.unusedSimpArgs false
section
namespace Go.Proofs.YtleljbiejeofgaaGreatDoor.Pe
open Go Go.RowKit Co Sg Ac It Sl Wl
set_option maxRecDepth 100000
set_option maxHeartbeats 8000000
theorem iconvict_c (b : Bx) (e : Evidence) (he : formedE e = true) (hs : e.old.server = 1) (hp : b.pf = none) {N : Nat} (hd : Sl.CD b.d N) (hrw : b.rows.length ≤ 16000000) (hN : N + 3013 ≤ 16777216) :
  AC Tryz.prog 64 [.ptr 3 0, evV e] (XB b) (.it .i64 5) (XB { b with d := keepD b.d [rowP e], rows := b.rows ++ [rowP e], pf := some e, lo := true }) := by
 have k1 := iproofRow_c e he
 have k2 := ikeep_c b [rowP e] (B := 3000) hd (by simp; omega) (by omega) (fun r hr => by rw [List.mem_singleton.1 hr]; exact rowP_len he) (by simp; omega)
 rw [show (b.lo || !([rowP e]).isEmpty) = true by simp] at k2
 generalize b.rows ++ [rowP e] = R at k2 ⊢
 generalize keepD b.d [rowP e] = D at k2 ⊢
 have k3 := fkserver_c e
 rw [hs] at k3
 have k4 := icopyP_c e (by have := (formedE_iff.1 he).2.2.2.1; omega)
 obtain ⟨ps, d, rows, m1, m2, pf, c1, c2, lo⟩ := b
 simp only at hp
 subst hp
 have hpf : pfV none = [] := rfl
 refine AC.enter2 [118, 68, 119] [] Tryz.func64 rfl (by decide) (by decide) (Nat.le_of_ble_eq_true rfl) (by kernel_rfl) ?_; refine zev ?_
 refine run ?_
 refine cp k1 ?_
 refine run ?_
 refine call_mk (AC.bx k2 _) ?_
 refine runf @hpf ?_
 refine cp k3 ?_
 refine runf @hpf ?_
 refine cp k4 ?_
 refine runf @hpf ?_
 exact ends_ret (List.range 8) (by rfl) (xb_sub ⟨ps, D, R, m1, m2, some e, c1, c2, true⟩ _) (by rfl) (by rfl) (by rfl)
theorem iexamine_c (b : Bx) (h : Head) (l : List It.Entry) (e : Evidence) (hp : InL b.ps) (hm : EOk b.m1.entries) (hh : b.m1.heads.length ≤ 1000000) (hf : findE b.ps b.m1.entries b.m1.heads h = (e, true)) :
  AC Tryz.prog 63 [.ptr 3 0, .it .i64 1, headV h, entriesV l, .bo true] (XB b) (.tup [evV e, .bo true]) (XB b) := by
 have k := fkfind_c b.ps b.m1 h hp hm hh
 rw [hf] at k
 obtain ⟨ps, d, rows, m1, m2, pf, c1, c2, lo⟩ := b
 refine AC.enterN 76 [116, 33, 16, 67] [] Tryz.func63 rfl (by decide) (by decide) (Nat.le_of_ble_eq_true rfl) (by kernel_rfl) rfl ?_; refine zev ?_
 refine run ?_
 refine cp k ?_
 refine run ?_
 exact ends_ret (List.range 8) (by rfl) (xb_sub ⟨ps, d, rows, m1, m2, pf, c1, c2, lo⟩ _) (by rfl) (by rfl) (by rfl)
theorem itakeB_fork (b : Bx) (f : Int) (bt : Batch) (h : Okb b bt) (hs : bt.head.server = 1) (hp : b.pf = none) {m' : Mirror} (ht : Sl.take b.ps b.m1 bt = (m', 5)) (hf0 : bt.frm = 0)
  {e : Evidence} (hf : findE b.ps b.m1.entries b.m1.heads bt.head = (e, true)) (he : formedE e = true) (hes : e.old.server = 1) {N : Nat} (hd : Sl.CD b.d N) (hrw : b.rows.length ≤ 16000000) (hN : N + 3013 ≤ 16777216) :
  AC Tryz.prog 26 [.ptr 3 0, msgB f bt] (XB b) (.it .i64 5) (XB { b with d := keepD b.d [rowP e], rows := b.rows ++ [rowP e], pf := some e, lo := true }) := by
 have hm := h.me
 rw [hs] at hm
 have hmh := h.mh
 rw [hs] at hmh
 have k1 := bcopy_c bt h.ne (by have := h.len; omega) h.cz
 have k2 := iother_c b h.ps3 1
 rw [decide_eq_true (by decide)] at k2
 have k3 := iconv_c b 1
 rw [show (b.pf.isSome && decide ((1 : Int) = 1)) = false by rw [hp]; rfl] at k3
 have k4 := mtake_c b.ps b.m1 bt h.inl hm (by have := h.ml; rwa [hs] at this) hmh h.ok ⟨by have := h.frm; omega, by have := h.frm; omega⟩
 rw [ht] at k4
 have k5 := econcat_c [] bt.entries (by cases hx : bt.entries with | nil => exact absurd hx h.ne | cons => simp) (by have := h.len; simp; omega)
 have k6 := iexamine_c b bt.head bt.entries e h.inl hm hmh hf
 have k7 := iconvict_c b e he hes hp hd hrw hN
 generalize b.rows ++ [rowP e] = R at k7 ⊢
 generalize keepD b.d [rowP e] = D at k7 ⊢
 change AC _ _ [.sl .ro [.sl .ro [], .sl .ro (bt.entries.map entryV)]] _ (entriesV bt.entries) _ at k5
 obtain ⟨ps, d, rows, m1, m2, pf, c1, c2, lo⟩ := b
 obtain ⟨⟨srv, size, root, time, ⟨se, ss⟩⟩, frm, en⟩ := bt
 obtain ⟨ns, ne, nh⟩ := m'
 simp only at hs k1 k4 hf0 k5 k6
 subst hs hf0
 refine AC.enter2 [57, 59, 61, 62] [29, 58] Tryz.func26 rfl (by decide) (by decide) (Nat.le_of_ble_eq_true rfl) (by kernel_rfl) ?_; refine zev ?_
 refine run ?_
 refine cp k1 ?_
 refine run ?_
 refine call_mk ⟨fun R => AC.bx k2 _, rfl⟩ ?_
 refine run ?_
 refine call_mk ⟨fun R => AC.bx k3 _, rfl⟩ ?_
 refine run ?_
 have hmin : (if (m1.entries.length : Int) < 0 then (m1.entries.length : Int) else 0) = 0 := by split <;> omega
 have hszm := entries_sz m1.entries
 refine cp k4 ?_
 refine runf (an @hmin @hszm) ?_
 refine cp k5 ?_
 refine run ?_
 refine call_mk (AC.bx k6 _) ?_
 refine run ?_
 refine call_mk (AC.bx k7 _) ?_
 refine run ?_
 exact ends_ret (List.range 8) (by rfl) (xb_sub ⟨ps, D, R, m1, m2, some e, c1, c2, true⟩ _) (by rfl) (by rfl) (by rfl)
theorem itakeE_c (b : Bx) (f : Int) (e : Evidence) (hi : InL b.ps) (hck : checkE b.ps e = true) (he : formedE e = true) (hs : e.old.server = 1) (hp : b.pf = none) {N : Nat} (hd : Sl.CD b.d N) (hrw : b.rows.length ≤ 16000000) (hN : N + 3013 ≤ 16777216) :
  AC Tryz.prog 28 [.ptr 3 0, msgE f e] (XB b) (.it .i64 0) (XB { b with d := keepD b.d [rowP e], rows := b.rows ++ [rowP e], pf := some e, lo := true }) := by
 have k1 := fkcheck_c b.ps e hi (by have := (formedE_iff.1 he).2.2.2.1; omega)
 rw [hck] at k1
 have k2 := fkserver_c e
 rw [hs] at k2
 have k3 := iconv_c b 1
 rw [show (b.pf.isSome && decide ((1 : Int) = 1)) = false by rw [hp]; rfl] at k3
 have k7 := iconvict_c b e he hs hp hd hrw hN
 generalize b.rows ++ [rowP e] = R at k7 ⊢
 generalize keepD b.d [rowP e] = D at k7 ⊢
 obtain ⟨ps, d, rows, m1, m2, pf, c1, c2, lo⟩ := b
 refine AC.enter2 [67, 68] [58] Tryz.func28 rfl (by decide) (by decide) (Nat.le_of_ble_eq_true rfl) (by kernel_rfl) ?_; refine zev ?_
 refine run ?_
 refine cp k1 ?_
 refine run ?_
 refine cp k2 ?_
 refine run ?_
 refine call_mk ⟨fun R => AC.bx k3 _, rfl⟩ ?_
 refine run ?_
 refine call_mk (AC.bx k7 _) ?_
 refine run ?_
 exact ends_ret (List.range 8) (by rfl) (xb_sub ⟨ps, D, R, m1, m2, some e, c1, c2, true⟩ _) (by rfl) (by rfl) (by rfl)
end Go.Proofs.YtleljbiejeofgaaGreatDoor.Pe
end
section
namespace Go.Proofs.YtleljbiejeofgaaGreatDoor.Pe
open Go Go.RowKit Co Sg Ac It Sl Wl
set_option maxRecDepth 100000
set_option maxHeartbeats 8000000
theorem itake_fullB1 (b : Bx) (bt : Batch) (hp : b.ps.length = 3) (hc : 16 ≤ b.c1) : AC Tryz.prog 13 [.ptr 3 0, msgB 1 bt] (XB b) (.it .i64 7) (XB b) := by
 have k2 := iother_c b hp 1
 rw [decide_eq_true (by decide)] at k2
 obtain ⟨ps, d, rows, m1, m2, pf, c1, c2, lo⟩ := b
 refine AC.enter2 [] [29] Tryz.func13 rfl (by decide) (by decide) (Nat.le_of_ble_eq_true rfl) (by kernel_rfl) ?_; refine zev ?_
 refine run ?_
 refine call_mk ⟨fun R => AC.bx k2 _, rfl⟩ ?_
 simp only at hc
 have hge : c1 ≥ 16 := hc
 refine runf @hge ?_
 exact ends_ret (List.range 8) (by rfl) (xb_sub ⟨ps, d, rows, m1, m2, pf, c1, c2, lo⟩ _) (by rfl) (by rfl) (by rfl)
theorem itake_goB1 (b b' : Bx) (bt : Batch) (hp : b.ps.length = 3) (h0 : 0 ≤ b.c1) (hc : b.c1 < 16) (hdn : b.d.down = false) {c : Int} (k : AC Tryz.prog 26 [.ptr 3 0, msgB 1 bt] (XB { b with c1 := b.c1 + 1 }) (.it .i64 c) (XB b')) (h5 : c ≠ 0) (h6 : c ≠ 5) : AC Tryz.prog 13 [.ptr 3 0, msgB 1 bt] (XB b) (.it .i64 c) (XB b') := by
 have k2 := iother_c b hp 1
 rw [decide_eq_true (by decide)] at k2
 have q0 : (c == 0) = false := beq_eq_false_iff_ne.2 h5
 have q5 : (c == 5) = false := beq_eq_false_iff_ne.2 h6
 obtain ⟨ps, d, rows, m1, m2, pf, c1, c2, lo⟩ := b
 refine AC.enter2 [] [29] Tryz.func13 rfl (by decide) (by decide) (Nat.le_of_ble_eq_true rfl) (by kernel_rfl) ?_; refine zev ?_
 refine run ?_
 refine call_mk ⟨fun R => AC.bx k2 _, rfl⟩ ?_
 simp only at hc h0 k hdn
 have hge : ¬ c1 ≥ 16 := by omega
 have hw : IntKind.i64.wrap (c1 + 1) = c1 + 1 := wrap64 (by omega) (by omega)
 refine runf (an @hge @hw) ?_
 refine Pe.c1 0 (d_down d) ?_
 refine runf @hdn ?_
 refine call_mk (AC.bx k _) ?_
 refine runf (an @q0 @q5) ?_
 exact ends_ret (List.range 8) (by rfl) (xb_sub b' _) (by rfl) (by rfl) (by rfl)
theorem itake_setB1_0 (b b' : Bx) (bt : Batch) (hp : b.ps.length = 3) (h0 : 0 ≤ b.c1) (hc : b.c1 < 16) (hdn : b.d.down = false) (k : AC Tryz.prog 26 [.ptr 3 0, msgB 1 bt] (XB { b with c1 := b.c1 + 1 }) (.it .i64 0) (XB b')) {d' : Dm.Dk} (hf : Dm.flushD b'.d 2 = (0, d')) : AC Tryz.prog 13 [.ptr 3 0, msgB 1 bt] (XB b) (.it .i64 0) (XB { b' with d := if b'.lo then d' else b'.d, lo := false }) := by
 have k2 := iother_c b hp 1
 rw [decide_eq_true (by decide)] at k2
 have ks := isettle_c b' hf
 generalize hb2 : ({ b' with d := if b'.lo then d' else b'.d, lo := false } : Bx) = b2 at *
 clear hb2
 obtain ⟨ps, d, rows, m1, m2, pf, c1, c2, lo⟩ := b
 refine AC.enter2 [] [29] Tryz.func13 rfl (by decide) (by decide) (Nat.le_of_ble_eq_true rfl) (by kernel_rfl) ?_; refine zev ?_
 refine run ?_
 refine call_mk ⟨fun R => AC.bx k2 _, rfl⟩ ?_
 simp only at hc h0 k hdn
 have hge : ¬ c1 ≥ 16 := by omega
 have hw : IntKind.i64.wrap (c1 + 1) = c1 + 1 := wrap64 (by omega) (by omega)
 refine runf (an @hge @hw) ?_
 refine Pe.c1 0 (d_down d) ?_
 refine runf @hdn ?_
 refine call_mk (AC.bx k _) ?_
 refine run ?_
 refine call_mk (AC.bx ks _) ?_
 refine run ?_
 exact ends_ret (List.range 8) (by rfl) (xb_sub b2 _) (by rfl) (by rfl) (by rfl)
theorem itake_setB1_5 (b b' : Bx) (bt : Batch) (hp : b.ps.length = 3) (h0 : 0 ≤ b.c1) (hc : b.c1 < 16) (hdn : b.d.down = false) (k : AC Tryz.prog 26 [.ptr 3 0, msgB 1 bt] (XB { b with c1 := b.c1 + 1 }) (.it .i64 5) (XB b')) {d' : Dm.Dk} (hf : Dm.flushD b'.d 2 = (0, d')) : AC Tryz.prog 13 [.ptr 3 0, msgB 1 bt] (XB b) (.it .i64 5) (XB { b' with d := if b'.lo then d' else b'.d, lo := false }) := by
 have k2 := iother_c b hp 1
 rw [decide_eq_true (by decide)] at k2
 have ks := isettle_c b' hf
 generalize hb2 : ({ b' with d := if b'.lo then d' else b'.d, lo := false } : Bx) = b2 at *
 clear hb2
 obtain ⟨ps, d, rows, m1, m2, pf, c1, c2, lo⟩ := b
 refine AC.enter2 [] [29] Tryz.func13 rfl (by decide) (by decide) (Nat.le_of_ble_eq_true rfl) (by kernel_rfl) ?_; refine zev ?_
 refine run ?_
 refine call_mk ⟨fun R => AC.bx k2 _, rfl⟩ ?_
 simp only at hc h0 k hdn
 have hge : ¬ c1 ≥ 16 := by omega
 have hw : IntKind.i64.wrap (c1 + 1) = c1 + 1 := wrap64 (by omega) (by omega)
 refine runf (an @hge @hw) ?_
 refine Pe.c1 0 (d_down d) ?_
 refine runf @hdn ?_
 refine call_mk (AC.bx k _) ?_
 refine run ?_
 refine call_mk (AC.bx ks _) ?_
 refine run ?_
 exact ends_ret (List.range 8) (by rfl) (xb_sub b2 _) (by rfl) (by rfl) (by rfl)
theorem itake_fullB2 (b : Bx) (bt : Batch) (hp : b.ps.length = 3) (hc : 16 ≤ b.c2) : AC Tryz.prog 13 [.ptr 3 0, msgB 2 bt] (XB b) (.it .i64 7) (XB b) := by
 have k2 := iother_c b hp 2
 rw [decide_eq_true (by decide)] at k2
 obtain ⟨ps, d, rows, m1, m2, pf, c1, c2, lo⟩ := b
 refine AC.enter2 [] [29] Tryz.func13 rfl (by decide) (by decide) (Nat.le_of_ble_eq_true rfl) (by kernel_rfl) ?_; refine zev ?_
 refine run ?_
 refine call_mk ⟨fun R => AC.bx k2 _, rfl⟩ ?_
 simp only at hc
 have hge : c2 ≥ 16 := hc
 refine runf @hge ?_
 exact ends_ret (List.range 8) (by rfl) (xb_sub ⟨ps, d, rows, m1, m2, pf, c1, c2, lo⟩ _) (by rfl) (by rfl) (by rfl)
theorem itake_goB2 (b b' : Bx) (bt : Batch) (hp : b.ps.length = 3) (h0 : 0 ≤ b.c2) (hc : b.c2 < 16) (hdn : b.d.down = false) {c : Int} (k : AC Tryz.prog 26 [.ptr 3 0, msgB 2 bt] (XB { b with c2 := b.c2 + 1 }) (.it .i64 c) (XB b')) (h5 : c ≠ 0) (h6 : c ≠ 5) : AC Tryz.prog 13 [.ptr 3 0, msgB 2 bt] (XB b) (.it .i64 c) (XB b') := by
 have k2 := iother_c b hp 2
 rw [decide_eq_true (by decide)] at k2
 have q0 : (c == 0) = false := beq_eq_false_iff_ne.2 h5
 have q5 : (c == 5) = false := beq_eq_false_iff_ne.2 h6
 obtain ⟨ps, d, rows, m1, m2, pf, c1, c2, lo⟩ := b
 refine AC.enter2 [] [29] Tryz.func13 rfl (by decide) (by decide) (Nat.le_of_ble_eq_true rfl) (by kernel_rfl) ?_; refine zev ?_
 refine run ?_
 refine call_mk ⟨fun R => AC.bx k2 _, rfl⟩ ?_
 simp only at hc h0 k hdn
 have hge : ¬ c2 ≥ 16 := by omega
 have hw : IntKind.i64.wrap (c2 + 1) = c2 + 1 := wrap64 (by omega) (by omega)
 refine runf (an @hge @hw) ?_
 refine Pe.c1 0 (d_down d) ?_
 refine runf @hdn ?_
 refine call_mk (AC.bx k _) ?_
 refine runf (an @q0 @q5) ?_
 exact ends_ret (List.range 8) (by rfl) (xb_sub b' _) (by rfl) (by rfl) (by rfl)
theorem itake_setB2_0 (b b' : Bx) (bt : Batch) (hp : b.ps.length = 3) (h0 : 0 ≤ b.c2) (hc : b.c2 < 16) (hdn : b.d.down = false) (k : AC Tryz.prog 26 [.ptr 3 0, msgB 2 bt] (XB { b with c2 := b.c2 + 1 }) (.it .i64 0) (XB b')) {d' : Dm.Dk} (hf : Dm.flushD b'.d 2 = (0, d')) : AC Tryz.prog 13 [.ptr 3 0, msgB 2 bt] (XB b) (.it .i64 0) (XB { b' with d := if b'.lo then d' else b'.d, lo := false }) := by
 have k2 := iother_c b hp 2
 rw [decide_eq_true (by decide)] at k2
 have ks := isettle_c b' hf
 generalize hb2 : ({ b' with d := if b'.lo then d' else b'.d, lo := false } : Bx) = b2 at *
 clear hb2
 obtain ⟨ps, d, rows, m1, m2, pf, c1, c2, lo⟩ := b
 refine AC.enter2 [] [29] Tryz.func13 rfl (by decide) (by decide) (Nat.le_of_ble_eq_true rfl) (by kernel_rfl) ?_; refine zev ?_
 refine run ?_
 refine call_mk ⟨fun R => AC.bx k2 _, rfl⟩ ?_
 simp only at hc h0 k hdn
 have hge : ¬ c2 ≥ 16 := by omega
 have hw : IntKind.i64.wrap (c2 + 1) = c2 + 1 := wrap64 (by omega) (by omega)
 refine runf (an @hge @hw) ?_
 refine Pe.c1 0 (d_down d) ?_
 refine runf @hdn ?_
 refine call_mk (AC.bx k _) ?_
 refine run ?_
 refine call_mk (AC.bx ks _) ?_
 refine run ?_
 exact ends_ret (List.range 8) (by rfl) (xb_sub b2 _) (by rfl) (by rfl) (by rfl)
theorem itake_setE2_0 (b b' : Bx) (ev : Evidence) (hp : b.ps.length = 3) (h0 : 0 ≤ b.c2) (hc : b.c2 < 16) (hdn : b.d.down = false) (k : AC Tryz.prog 28 [.ptr 3 0, msgE 2 ev] (XB { b with c2 := b.c2 + 1 }) (.it .i64 0) (XB b')) {d' : Dm.Dk} (hf : Dm.flushD b'.d 2 = (0, d')) : AC Tryz.prog 13 [.ptr 3 0, msgE 2 ev] (XB b) (.it .i64 0) (XB { b' with d := if b'.lo then d' else b'.d, lo := false }) := by
 have k2 := iother_c b hp 2
 rw [decide_eq_true (by decide)] at k2
 have ks := isettle_c b' hf
 generalize hb2 : ({ b' with d := if b'.lo then d' else b'.d, lo := false } : Bx) = b2 at *
 clear hb2
 obtain ⟨ps, d, rows, m1, m2, pf, c1, c2, lo⟩ := b
 refine AC.enter2 [] [29] Tryz.func13 rfl (by decide) (by decide) (Nat.le_of_ble_eq_true rfl) (by kernel_rfl) ?_; refine zev ?_
 refine run ?_
 refine call_mk ⟨fun R => AC.bx k2 _, rfl⟩ ?_
 simp only at hc h0 k hdn
 have hge : ¬ c2 ≥ 16 := by omega
 have hw : IntKind.i64.wrap (c2 + 1) = c2 + 1 := wrap64 (by omega) (by omega)
 refine runf (an @hge @hw) ?_
 refine Pe.c1 0 (d_down d) ?_
 refine runf @hdn ?_
 refine call_mk (AC.bx k _) ?_
 refine run ?_
 refine call_mk (AC.bx ks _) ?_
 refine run ?_
 exact ends_ret (List.range 8) (by rfl) (xb_sub b2 _) (by rfl) (by rfl) (by rfl)
end Go.Proofs.YtleljbiejeofgaaGreatDoor.Pe
end
section
namespace Go.Proofs.YtleljbiejeofgaaGreatDoor.Sl
open Go Co Sg Ac It
structure MirW (s : Int) (l : List It.Entry) (m : Mirror) (n k : Nat) : Prop where
 server : m.server = s
 le : n ≤ l.length
 entries : m.entries = l.take n
 heads : m.heads.length ≤ k
theorem MirW.len {s : Int} {l : List It.Entry} {m : Mirror} {n k : Nat} (h : MirW s l m n k) : m.entries.length = n := by
 rw [h.entries, List.length_take, Nat.min_eq_left h.le]
theorem MirW.mono {s : Int} {l : List It.Entry} {m : Mirror} {n k k' : Nat} (h : MirW s l m n k) (hk : k ≤ k') : MirW s l m n k' := ⟨h.server, h.le, h.entries, Nat.le_trans h.heads hk⟩
theorem mirW_new (s : Int) (l : List It.Entry) : MirW s l ⟨s, [], []⟩ 0 0 := ⟨rfl, Nat.zero_le _, by simp, Nat.le_refl _⟩
theorem mirW_step {s : Nat} (hs : s = 1 ∨ s = 2) {l : List Int} (hl : l.length ≤ 80) {m : Mirror} {n k : Nat} (h : MirW s (ents l) m n k) {frm t : Nat} (h1 : frm < t) (h2 : t ≤ l.length) (h3 : t - frm ≤ 64) {hd : Head} (hh : HeadFor iPubs s (ents l) t hd) :
  (verifyH (iKey s).pub hd = false ∧ take iPubs m ⟨hd, frm, ((ents l).take t).drop frm⟩ = (mirror0, 3)) ∨
  (n < frm ∧ take iPubs m ⟨hd, frm, ((ents l).take t).drop frm⟩ = (mirror0, 12)) ∨
  (frm ≤ n ∧ t ≤ n ∧ take iPubs m ⟨hd, frm, ((ents l).take t).drop frm⟩ = (m, 0)) ∨
  (frm ≤ n ∧ n < t ∧ take iPubs m ⟨hd, frm, ((ents l).take t).drop frm⟩ = (⟨s, (ents l).take t, m.heads ++ [hd]⟩, 0)) := by
 have g := ents_good hs hl
 have e := ents_len l
 have ht := take_head g m h.server h.le h.entries h1 (by omega) h3 hh
 by_cases c0 : verifyH (iKey s).pub hd = false
 ·exact .inl ⟨c0, by rw [ht, if_pos c0]⟩
 by_cases c1 : n < frm
 ·exact .inr (.inl ⟨c1, by rw [ht, if_neg c0, if_pos c1]⟩)
 by_cases c2 : t ≤ n
 ·exact .inr (.inr (.inl ⟨by omega, c2, by rw [ht, if_neg c0, if_neg c1, if_pos c2]⟩))
 ·exact .inr (.inr (.inr ⟨by omega, by omega, by rw [ht, if_neg c0, if_neg c1, if_neg c2]⟩))
theorem mirW_next {s : Nat} {l : List Int} {m : Mirror} {n k : Nat} (h : MirW s (ents l) m n k) {t : Nat} (h2 : t ≤ l.length) (hd : Head) : MirW s (ents l) ⟨s, (ents l).take t, m.heads ++ [hd]⟩ t (k + 1) :=
 ⟨rfl, by rw [ents_len]; exact h2, rfl, by have := h.heads; rw [List.length_append, List.length_singleton]; omega⟩
theorem headTo_verify {s : Nat} (hs : s = 1 ∨ s = 2) {l : List Int} (hl : l.length ≤ 80) {t : Nat} (h1 : 1 ≤ t) (h2 : t ≤ l.length) : verifyH (iKey s).pub (headTo (iKey s) s (ents l) t) = true :=
 (headTo_ok (ents_good hs hl) h1 (by rw [ents_len]; exact h2)).2.2.2.2
theorem headTo_hf {s : Nat} (hs : s = 1 ∨ s = 2) {l : List Int} (hl : l.length ≤ 80) {t : Nat} (h1 : 1 ≤ t) (h2 : t ≤ l.length) : HeadFor iPubs s (ents l) t (headTo (iKey s) s (ents l) t) :=
 headTo_for (ents_good hs hl) h1 (by rw [ents_len]; exact h2)
theorem HeadFor.sig {ps : List Int} {server : Int} {l : List It.Entry} {t : Nat} {h : Head} (hh : HeadFor ps server l t h) : HeadFor ps server l t { h with sig := { h.sig with s := 0 } } := by
 refine ⟨hh.srv, hh.size, hh.root, ?_⟩
 have hr := hh.right
 unfold rightH at hr ⊢
 simp only [Bool.and_eq_true] at hr ⊢
 refine ⟨hr.1, ?_⟩
 have := hr.2
 unfold sigR at this ⊢
 simp only [Bool.and_eq_true] at this ⊢
 exact ⟨this.1, by decide⟩
end Go.Proofs.YtleljbiejeofgaaGreatDoor.Sl
end
section
namespace Go.Proofs.YtleljbiejeofgaaGreatDoor.Pe
open Go Go.RowKit Co Sg Ac It Sl Wl
set_option maxRecDepth 100000
structure BI (b : Bx) (N : Nat) : Prop where
 ps : b.ps = iPubs
 cd : Sl.CD b.d N
 rw : b.rows.length ≤ N
 lo : b.lo = false
 c1 : 0 ≤ b.c1
 c2 : 0 ≤ b.c2
theorem BI.mono {b : Bx} {N M : Nat} (h : BI b N) (hm : N ≤ M) : BI b M := ⟨h.ps, h.cd.mono hm, by have := h.rw; omega, h.lo, h.c1, h.c2⟩
theorem BI.ps3 {b : Bx} {N : Nat} (h : BI b N) : b.ps.length = 3 := by rw [h.ps]; rfl
theorem iPubs_inl : InL iPubs := ⟨by decide, fun i hi => by
 have h0 := Key.right_iff.1 (iKey_right 0)
 have h1 := Key.right_iff.1 (iKey_right 1)
 have h2 := Key.right_iff.1 (iKey_right 2)
 have p0 := powm_lt 37 (iKey 0).secret.toNat
 have p1 := powm_lt 37 (iKey 1).secret.toNat
 have p2 := powm_lt 37 (iKey 2).secret.toNat
 unfold iPubs at hi
 simp only [List.mem_cons, List.not_mem_nil, or_false] at hi
 rcases hi with rfl | rfl | rfl <;> omega⟩
theorem ents_iz {l : List Int} (h : l.length ≤ 1000) : ∀ e ∈ ents l, Iz e.item := fun e he => by
 obtain ⟨_, _, n, hn, h0, h1⟩ := entsT_ok l 0 (by decide) (by omega) e he
 rw [hn]
 exact iz_right (oneI_right (by omega))
theorem ents_cz {l : List Int} (h : l.length ≤ 1000) : ∀ e ∈ ents l, Cz e.item := fun e he => by
 obtain ⟨_, _, n, hn, h0, h1⟩ := entsT_ok l 0 (by decide) (by omega) e he
 rw [hn]
 exact ⟨Nat.zero_le _, Nat.zero_le _, Nat.zero_le _⟩
theorem ents_eok {l : List Int} (h : l.length ≤ 1000) : EOk (ents l) := ⟨by rw [ents_len]; omega, ents_iz h⟩
theorem mem_part {l : List It.Entry} {frm t : Nat} {e : It.Entry} (h : e ∈ (l.take t).drop frm) : e ∈ l := List.mem_of_mem_take (List.mem_of_mem_drop h)
theorem okb_part1 {b : Bx} (hps : b.ps = iPubs) {l : List Int} (hl : l.length ≤ 20) {n : Nat} (hm : b.m1.entries = (ents l).take n) (hk : b.m1.heads.length ≤ 1000) {frm t : Nat} (h1 : frm < t) (h2 : t ≤ l.length) {hd : Head} (hs : hd.server = 1) : Okb b ⟨hd, frm, ((ents l).take t).drop frm⟩ := by
 have hel := ents_len l
 have hlen : (((ents l).take t).drop frm).length = t - frm := by rw [List.length_drop, List.length_take]; omega
 have hmi : b.mi hd.server = b.m1 := by rw [hs]; rfl
 refine ⟨by rw [hps]; rfl, by rw [hps]; exact iPubs_inl, by rw [hs]; decide, fun e => by rw [show ((ents l).take t).drop frm = [] from e] at hlen; simp at hlen; omega, by show (((ents l).take t).drop frm).length ≤ 20; omega, fun e he => ents_cz (by omega) e (mem_part he), ((ents_eok (by omega)).take t).drop frm, ⟨by show (0 : Int) ≤ (frm : Int); omega, by show (frm : Int) ≤ 1000; omega⟩, ?_, ?_, ?_⟩
 ·show EOk (b.mi hd.server).entries
  rw [hmi, hm]
  exact (ents_eok (by omega)).take n
 ·show (b.mi hd.server).entries.length ≤ _
  rw [hmi, hm, List.length_take]
  omega
 ·show (b.mi hd.server).heads.length ≤ _
  rw [hmi]
  omega
theorem step1 {b : Bx} {N : Nat} (hb : BI b N) (hN : N ≤ 16000000) {l : List Int} (hl : l.length ≤ 20) {n k : Nat} (hm : MirW ((1 : Nat) : Int) (ents l) b.m1 n k) (hk : k ≤ 1000) {frm t : Nat} (h1 : frm < t) (h2 : t ≤ l.length) {hd : Head} (hh : HeadFor iPubs ((1 : Nat) : Int) (ents l) t hd) (hp : b.pf = none ∨ 1 ≠ (1 : Nat)) (hc : b.c1 < 16) :
  ∃ (c : Int) (b' : Bx), AC Tryz.prog 13 [.ptr 3 0, msgB ((1 : Nat) : Int) ⟨hd, frm, ((ents l).take t).drop frm⟩] (XB b) (.it .i64 c) (XB b') ∧ BI b' (N + 4683) ∧ b'.pf = b.pf ∧ b'.m2 = b.m2 ∧ b'.c2 = b.c2 ∧ b'.c1 = b.c1 + 1 ∧
   ((verifyH (iKey 1).pub hd = false ∧ c = 3 ∧ b'.m1 = b.m1) ∨ (n < frm ∧ c = 12 ∧ b'.m1 = b.m1) ∨ (frm ≤ n ∧ t ≤ n ∧ c = 0 ∧ b'.m1 = b.m1) ∨ (frm ≤ n ∧ n < t ∧ c = 0 ∧ b'.m1 = ⟨((1 : Nat) : Int), (ents l).take t, b.m1.heads ++ [hd]⟩)) := by
 have hel := ents_len l
 have hlen : (((ents l).take t).drop frm).length = t - frm := by rw [List.length_drop, List.length_take]; omega
 have hml := hm.len
 have hkk := hm.heads
 have hok : Okb { b with c1 := b.c1 + 1 } ⟨hd, frm, ((ents l).take t).drop frm⟩ := okb_part1 (b := { b with c1 := b.c1 + 1 }) hb.ps hl hm.entries (by show b.m1.heads.length ≤ 1000; omega) h1 h2 hh.srv
 have hdn : b.d.down = false := hb.cd.calm.down
 have hc0 := hb.c1
 have hrw := hb.rw
 have hlo := hb.lo
 have ht0 : Sl.take b.ps b.m1 ⟨hd, frm, ((ents l).take t).drop frm⟩ = Sl.take iPubs b.m1 ⟨hd, frm, ((ents l).take t).drop frm⟩ := by rw [hb.ps]
 obtain ⟨d', hf, hcf⟩ := hb.cd.flush
 have hbi : BI { b with c1 := b.c1 + 1 } (N + 4683) := ⟨hb.ps, hb.cd.mono (by omega), by show b.rows.length ≤ _; omega, hb.lo, by show 0 ≤ b.c1 + 1; have := hb.c1; omega, hb.c2⟩
 rcases mirW_step (.inl rfl) (by omega) hm h1 h2 (by omega) hh with ⟨hv, ht⟩ | ⟨hg, ht⟩ | ⟨ha, ha', ht⟩ | ⟨ha, ha', ht⟩
 ·have k := itakeB_err1 { b with c1 := b.c1 + 1 } 1 _ hok hh.srv hp (ht0.trans ht) (by decide) (by decide) (by decide)
  exact ⟨3, _, itake_goB1 b _ _ hb.ps3 hc0 hc hdn k (by decide) (by decide), hbi, rfl, rfl, rfl, rfl, .inl ⟨hv, rfl, rfl⟩⟩
 ·have k := itakeB_err1 { b with c1 := b.c1 + 1 } 1 _ hok hh.srv hp (ht0.trans ht) (by decide) (by decide) (by decide)
  exact ⟨12, _, itake_goB1 b _ _ hb.ps3 hc0 hc hdn k (by decide) (by decide), hbi, rfl, rfl, rfl, rfl, .inr (.inl ⟨hg, rfl, rfl⟩)⟩
 ·have k := itakeB_same1 { b with c1 := b.c1 + 1 } 1 _ hok hh.srv hp (ht0.trans ht) (Nat.le_refl _)
  exact ⟨0, _, itake_setB1_0 b _ _ hb.ps3 hc0 hc hdn k hf, ⟨hb.ps, by show Sl.CD (if b.lo = true then d' else b.d) _; rw [hlo]; exact hb.cd.mono (by omega), hbi.rw, rfl, hbi.c1, hbi.c2⟩, rfl, rfl, rfl, rfl, .inr (.inr (.inl ⟨ha, ha', rfl, rfl⟩))⟩
 ·have hsm : ∀ e ∈ ((ents l).take t).drop frm, (entryB e).length ≤ 200 := ents_part (by omega) frm t
  obtain ⟨hc1, d2, hf2, hc2⟩ := hb.cd.batch (b := ⟨hd, frm, ((ents l).take t).drop frm⟩) hok.len hsm hh.right hok.frm.2 (by omega)
  have hrl := rowsOfB_len ⟨hd, frm, ((ents l).take t).drop frm⟩
  have hle := hok.len
  have k := itakeB_long1 { b with c1 := b.c1 + 1 } 1 _ hok hh.srv hp (ht0.trans ht) (by show b.m1.entries.length < ((ents l).take t).length; rw [List.length_take]; omega) (N := N) hb.cd (by show b.rows.length ≤ _; omega) (by omega) (fun e he => ents_iz (by omega) e (mem_part he)) hsm hh.right
  exact ⟨0, _, itake_setB1_0 b _ _ hb.ps3 hc0 hc hdn k hf2, ⟨hb.ps, hc2, by show (b.rows ++ rowsOfB _).length ≤ _; rw [List.length_append]; omega, rfl, hbi.c1, hbi.c2⟩, rfl, rfl, rfl, rfl, .inr (.inr (.inr ⟨ha, ha', rfl, rfl⟩))⟩
theorem okb_part2 {b : Bx} (hps : b.ps = iPubs) {l : List Int} (hl : l.length ≤ 20) {n : Nat} (hm : b.m2.entries = (ents l).take n) (hk : b.m2.heads.length ≤ 1000) {frm t : Nat} (h1 : frm < t) (h2 : t ≤ l.length) {hd : Head} (hs : hd.server = 2) : Okb b ⟨hd, frm, ((ents l).take t).drop frm⟩ := by
 have hel := ents_len l
 have hlen : (((ents l).take t).drop frm).length = t - frm := by rw [List.length_drop, List.length_take]; omega
 have hmi : b.mi hd.server = b.m2 := by rw [hs]; rfl
 refine ⟨by rw [hps]; rfl, by rw [hps]; exact iPubs_inl, by rw [hs]; decide, fun e => by rw [show ((ents l).take t).drop frm = [] from e] at hlen; simp at hlen; omega, by show (((ents l).take t).drop frm).length ≤ 20; omega, fun e he => ents_cz (by omega) e (mem_part he), ((ents_eok (by omega)).take t).drop frm, ⟨by show (0 : Int) ≤ (frm : Int); omega, by show (frm : Int) ≤ 1000; omega⟩, ?_, ?_, ?_⟩
 ·show EOk (b.mi hd.server).entries
  rw [hmi, hm]
  exact (ents_eok (by omega)).take n
 ·show (b.mi hd.server).entries.length ≤ _
  rw [hmi, hm, List.length_take]
  omega
 ·show (b.mi hd.server).heads.length ≤ _
  rw [hmi]
  omega
theorem step2 {b : Bx} {N : Nat} (hb : BI b N) (hN : N ≤ 16000000) {l : List Int} (hl : l.length ≤ 20) {n k : Nat} (hm : MirW ((2 : Nat) : Int) (ents l) b.m2 n k) (hk : k ≤ 1000) {frm t : Nat} (h1 : frm < t) (h2 : t ≤ l.length) {hd : Head} (hh : HeadFor iPubs ((2 : Nat) : Int) (ents l) t hd) (hp : b.pf = none ∨ 2 ≠ (1 : Nat)) (hc : b.c2 < 16) :
  ∃ (c : Int) (b' : Bx), AC Tryz.prog 13 [.ptr 3 0, msgB ((2 : Nat) : Int) ⟨hd, frm, ((ents l).take t).drop frm⟩] (XB b) (.it .i64 c) (XB b') ∧ BI b' (N + 4683) ∧ b'.pf = b.pf ∧ b'.m1 = b.m1 ∧ b'.c1 = b.c1 ∧ b'.c2 = b.c2 + 1 ∧
   ((verifyH (iKey 2).pub hd = false ∧ c = 3 ∧ b'.m2 = b.m2) ∨ (n < frm ∧ c = 12 ∧ b'.m2 = b.m2) ∨ (frm ≤ n ∧ t ≤ n ∧ c = 0 ∧ b'.m2 = b.m2) ∨ (frm ≤ n ∧ n < t ∧ c = 0 ∧ b'.m2 = ⟨((2 : Nat) : Int), (ents l).take t, b.m2.heads ++ [hd]⟩)) := by
 have hel := ents_len l
 have hlen : (((ents l).take t).drop frm).length = t - frm := by rw [List.length_drop, List.length_take]; omega
 have hml := hm.len
 have hkk := hm.heads
 have hok : Okb { b with c2 := b.c2 + 1 } ⟨hd, frm, ((ents l).take t).drop frm⟩ := okb_part2 (b := { b with c2 := b.c2 + 1 }) hb.ps hl hm.entries (by show b.m2.heads.length ≤ 1000; omega) h1 h2 hh.srv
 have hdn : b.d.down = false := hb.cd.calm.down
 have hc0 := hb.c2
 have hrw := hb.rw
 have hlo := hb.lo
 have ht0 : Sl.take b.ps b.m2 ⟨hd, frm, ((ents l).take t).drop frm⟩ = Sl.take iPubs b.m2 ⟨hd, frm, ((ents l).take t).drop frm⟩ := by rw [hb.ps]
 obtain ⟨d', hf, hcf⟩ := hb.cd.flush
 have hbi : BI { b with c2 := b.c2 + 1 } (N + 4683) := ⟨hb.ps, hb.cd.mono (by omega), by show b.rows.length ≤ _; omega, hb.lo, hb.c1, by show 0 ≤ b.c2 + 1; have := hb.c2; omega⟩
 rcases mirW_step (.inr rfl) (by omega) hm h1 h2 (by omega) hh with ⟨hv, ht⟩ | ⟨hg, ht⟩ | ⟨ha, ha', ht⟩ | ⟨ha, ha', ht⟩
 ·have k := itakeB_err2 { b with c2 := b.c2 + 1 } 2 _ hok hh.srv hp (ht0.trans ht) (by decide) (by decide) (by decide)
  exact ⟨3, _, itake_goB2 b _ _ hb.ps3 hc0 hc hdn k (by decide) (by decide), hbi, rfl, rfl, rfl, rfl, .inl ⟨hv, rfl, rfl⟩⟩
 ·have k := itakeB_err2 { b with c2 := b.c2 + 1 } 2 _ hok hh.srv hp (ht0.trans ht) (by decide) (by decide) (by decide)
  exact ⟨12, _, itake_goB2 b _ _ hb.ps3 hc0 hc hdn k (by decide) (by decide), hbi, rfl, rfl, rfl, rfl, .inr (.inl ⟨hg, rfl, rfl⟩)⟩
 ·have k := itakeB_same2 { b with c2 := b.c2 + 1 } 2 _ hok hh.srv hp (ht0.trans ht) (Nat.le_refl _)
  exact ⟨0, _, itake_setB2_0 b _ _ hb.ps3 hc0 hc hdn k hf, ⟨hb.ps, by show Sl.CD (if b.lo = true then d' else b.d) _; rw [hlo]; exact hb.cd.mono (by omega), hbi.rw, rfl, hbi.c1, hbi.c2⟩, rfl, rfl, rfl, rfl, .inr (.inr (.inl ⟨ha, ha', rfl, rfl⟩))⟩
 ·have hsm : ∀ e ∈ ((ents l).take t).drop frm, (entryB e).length ≤ 200 := ents_part (by omega) frm t
  obtain ⟨hc1, d2, hf2, hc2⟩ := hb.cd.batch (b := ⟨hd, frm, ((ents l).take t).drop frm⟩) hok.len hsm hh.right hok.frm.2 (by omega)
  have hrl := rowsOfB_len ⟨hd, frm, ((ents l).take t).drop frm⟩
  have hle := hok.len
  have k := itakeB_long2 { b with c2 := b.c2 + 1 } 2 _ hok hh.srv hp (ht0.trans ht) (by show b.m2.entries.length < ((ents l).take t).length; rw [List.length_take]; omega) (N := N) hb.cd (by show b.rows.length ≤ _; omega) (by omega) (fun e he => ents_iz (by omega) e (mem_part he)) hsm hh.right
  exact ⟨0, _, itake_setB2_0 b _ _ hb.ps3 hc0 hc hdn k hf2, ⟨hb.ps, hc2, by show (b.rows ++ rowsOfB _).length ≤ _; rw [List.length_append]; omega, rfl, hbi.c1, hbi.c2⟩, rfl, rfl, rfl, rfl, .inr (.inr (.inr ⟨ha, ha', rfl, rfl⟩))⟩
theorem step_conv {b : Bx} {N : Nat} (hb : BI b N) (hN : N ≤ 16000000) {l : List Int} (hl : l.length ≤ 20) {n : Nat} (hm : b.m1.entries = (ents l).take n) (hk : b.m1.heads.length ≤ 1000) {frm t : Nat} (h1 : frm < t) (h2 : t ≤ l.length) {hd : Head} (hs : hd.server = 1) (hp : b.pf.isSome = true) (hc : b.c1 < 16) :
  ∃ b' : Bx, AC Tryz.prog 13 [.ptr 3 0, msgB ((1 : Nat) : Int) ⟨hd, frm, ((ents l).take t).drop frm⟩] (XB b) (.it .i64 5) (XB b') ∧ BI b' N ∧ b'.pf = b.pf ∧ b'.m1 = b.m1 ∧ b'.m2 = b.m2 ∧ b'.c2 = b.c2 ∧ b'.c1 = b.c1 + 1 := by
 have hok : Okb { b with c1 := b.c1 + 1 } ⟨hd, frm, ((ents l).take t).drop frm⟩ := okb_part1 (b := { b with c1 := b.c1 + 1 }) hb.ps hl hm hk h1 h2 hs
 obtain ⟨d', hf, hcf⟩ := hb.cd.flush
 have k := itakeB_conv { b with c1 := b.c1 + 1 } 1 _ hok hp hs
 exact ⟨_, itake_setB1_5 b _ _ hb.ps3 hb.c1 hc hb.cd.calm.down k hf, ⟨hb.ps, by show Sl.CD (if b.lo = true then d' else b.d) _; rw [hb.lo]; exact hb.cd, hb.rw, rfl, by show 0 ≤ b.c1 + 1; have := hb.c1; omega, hb.c2⟩, rfl, rfl, rfl, rfl, rfl⟩
theorem step_ev {b : Bx} {N : Nat} (hb : BI b N) (hN : N ≤ 16000000) {e : Evidence} (hck : checkE iPubs e = true) (he : formedE e = true) (hs : e.old.server = 1) (hp : b.pf = none) (hc : b.c2 < 16) :
  ∃ b' : Bx, AC Tryz.prog 13 [.ptr 3 0, msgE ((2 : Nat) : Int) e] (XB b) (.it .i64 0) (XB b') ∧ BI b' (N + 3013) ∧ b'.pf = some e ∧ b'.m1 = b.m1 ∧ b'.m2 = b.m2 ∧ b'.c1 = b.c1 ∧ b'.c2 = b.c2 + 1 := by
 obtain ⟨hc1, d2, hf2, hc2⟩ := hb.cd.proof he (by omega)
 have hrw := hb.rw
 have k := itakeE_c { b with c2 := b.c2 + 1 } 2 e (by show InL b.ps; rw [hb.ps]; exact iPubs_inl) (by show checkE b.ps e = true; rw [hb.ps]; exact hck) he hs hp (N := N) hb.cd (by show b.rows.length ≤ _; omega) (by omega)
 exact ⟨_, itake_setE2_0 b _ _ hb.ps3 hb.c2 hc hb.cd.calm.down k hf2, ⟨hb.ps, hc2, by show (b.rows ++ [rowP e]).length ≤ _; rw [List.length_append, List.length_singleton]; omega, rfl, hb.c1, by show 0 ≤ b.c2 + 1; have := hb.c2; omega⟩, rfl, rfl, rfl, rfl, rfl⟩
theorem step_fork {b : Bx} {N : Nat} (hb : BI b N) (hN : N ≤ 16000000) {bt : Batch} (hok : Okb { b with c1 := b.c1 + 1 } bt) (hs : bt.head.server = 1) (hp : b.pf = none) {m' : Mirror} (ht : Sl.take iPubs b.m1 bt = (m', 5)) (hf0 : bt.frm = 0)
  {e : Evidence} (hf : findE iPubs b.m1.entries b.m1.heads bt.head = (e, true)) (he : formedE e = true) (hes : e.old.server = 1) (hc : b.c1 < 16) :
  ∃ b' : Bx, AC Tryz.prog 13 [.ptr 3 0, msgB ((1 : Nat) : Int) bt] (XB b) (.it .i64 5) (XB b') ∧ BI b' (N + 3013) ∧ b'.pf = some e ∧ b'.m1 = b.m1 ∧ b'.m2 = b.m2 ∧ b'.c2 = b.c2 ∧ b'.c1 = b.c1 + 1 := by
 obtain ⟨hc1, d2, hf2, hc2⟩ := hb.cd.proof he (by omega)
 have hrw := hb.rw
 have k := itakeB_fork { b with c1 := b.c1 + 1 } 1 bt hok hs hp (by show Sl.take b.ps b.m1 bt = _; rw [hb.ps]; exact ht) hf0 (by show findE b.ps b.m1.entries b.m1.heads bt.head = _; rw [hb.ps]; exact hf) he hes (N := N) hb.cd (by show b.rows.length ≤ _; omega) (by omega)
 exact ⟨_, itake_setB1_5 b _ _ hb.ps3 hb.c1 hc hb.cd.calm.down k hf2, ⟨hb.ps, hc2, by show (b.rows ++ [rowP e]).length ≤ _; rw [List.length_append, List.length_singleton]; omega, rfl, by show 0 ≤ b.c1 + 1; have := hb.c1; omega, hb.c2⟩, rfl, rfl, rfl, rfl, rfl⟩
theorem step_round {b : Bx} {N : Nat} (hb : BI b N) : BI { b with c1 := 0, c2 := 0 } N := ⟨hb.ps, hb.cd, hb.rw, hb.lo, Int.le_refl 0, Int.le_refl 0⟩
end Go.Proofs.YtleljbiejeofgaaGreatDoor.Pe
end
section
namespace Go.Proofs.YtleljbiejeofgaaGreatDoor.Pe
open Go Go.RowKit Co Sg Ac It Sl Wl
set_option maxRecDepth 100000
set_option maxHeartbeats 8000000
abbrev bx0 (d : Dm.Dk) : Bx := ⟨iPubs, d, [], ⟨1, [], []⟩, ⟨2, [], []⟩, none, 0, 0, false⟩
theorem bx0_bi {d : Dm.Dk} (h : Sl.CD d 0) : BI (bx0 d) 0 := ⟨rfl, h, Nat.le_refl 0, rfl, Int.le_refl 0, Int.le_refl 0⟩
theorem lopen_c : ∃ d : Dm.Dk, Sl.CD d 0 ∧ AC Tryz.prog 7 [.ptr 0 0] [XD Dm.dk0] (.ptr 3 0) (XB (bx0 d)) := by
 obtain ⟨d, he, hc⟩ := Sl.CD.start
 refine ⟨d, hc, ?_⟩
 have k1 := ipubs_c
 have k2 := iopen_c iPubs rfl he
 change AC _ _ _ _ _ (XB (bx0 d)) at k2
 generalize hb : bx0 d = b at *
 refine AC.enter2 [22] [] Tryz.func7 rfl (by decide) (by decide) (Nat.le_of_ble_eq_true rfl) (by kernel_rfl) ?_; refine zev ?_
 refine run ?_
 refine cp k1 ?_
 refine run ?_
 refine call_mk k2 ?_
 refine run ?_
 exact ends_ret (List.range 8) (by rfl) (xb_same b) (by rfl) (by rfl) (by rfl)
theorem small_find {m : Mirror} (he : m.entries = ents [1, 2]) (hh : m.heads = [] ++ [headTo (iKey 1) 1 (ents [1, 2, 4]) 2]) : findE iPubs m.entries m.heads (headTo (iKey 1) 1 (ents [1, 3]) 2) = (evSmall, true) := by
 rw [he, hh, small_head, small_head']
 unfold findE
 simp only [List.nil_append, List.getLast?_singleton]
 rw [small_eq, if_pos ⟨rfl, small_check⟩]
theorem small47_c : AC Tryz.prog 6 [] [] (.bo true) [] := by
 obtain ⟨d, hcd, kopen⟩ := lopen_c
 have hb0 := bx0_bi hcd
 have hm1 : MirW ((1 : Nat) : Int) (ents [1, 2, 4]) (bx0 d).m1 0 0 := mirW_new _ _
 have hm2 : MirW ((2 : Nat) : Int) (ents [1, 2, 4]) (bx0 d).m2 0 0 := mirW_new _ _
 have hf1 := headTo_hf (s := 1) (.inl rfl) (l := [1, 2, 4]) (by decide) (t := 2) (by decide) (by decide)
 have hv1 := headTo_verify (s := 1) (.inl rfl) (l := [1, 2, 4]) (by decide) (t := 2) (by decide) (by decide)
 have hf2 := headTo_hf (s := 2) (.inr rfl) (l := [1, 2, 4]) (by decide) (t := 3) (by decide) (by decide)
 have hv2 := headTo_verify (s := 2) (.inr rfl) (l := [1, 2, 4]) (by decide) (t := 3) (by decide) (by decide)
 obtain ⟨c1, b1, k1, hb1, p1, o1, q1, r1, hc1⟩ := step1 hb0 (by decide) (l := [1, 2, 4]) (by decide) hm1 (by decide) (frm := 0) (t := 2) (by decide) (by decide) hf1 (.inl rfl) (by show (0 : Int) < 16; decide)
 obtain ⟨rfl, e1⟩ : c1 = 0 ∧ b1.m1 = ⟨((1 : Nat) : Int), (ents [1, 2, 4]).take 2, [] ++ [headTo (iKey 1) 1 (ents [1, 2, 4]) 2]⟩ := by
  rcases hc1 with ⟨h, _⟩ | ⟨h, _⟩ | ⟨_, h, _⟩ | ⟨_, _, h, h'⟩
  ·rw [hv1] at h; cases h
  ·omega
  ·omega
  ·exact ⟨h, h'⟩
 have hm3 : MirW ((1 : Nat) : Int) (ents [1, 2, 4]) b1.m1 2 1 := by rw [e1]; exact mirW_next hm1 (by decide) _
 obtain ⟨c2, b2, k2, hb2, p2, o2, q2, r2, hc2⟩ := step1 hb1 (by decide) (l := [1, 2, 4]) (by decide) hm3 (by decide) (frm := 0) (t := 2) (by decide) (by decide) hf1 (.inl p1) (by rw [r1]; show (0 : Int) + 1 < 16; decide)
 obtain ⟨rfl, e2⟩ : c2 = 0 ∧ b2.m1 = b1.m1 := by
  rcases hc2 with ⟨h, _⟩ | ⟨h, _⟩ | ⟨_, _, h, h'⟩ | ⟨_, h, _⟩
  ·rw [hv1] at h; cases h
  ·omega
  ·exact ⟨h, h'⟩
  ·omega
 have hm4 : MirW ((2 : Nat) : Int) (ents [1, 2, 4]) b2.m2 0 0 := by rw [o2, o1]; exact hm2
 obtain ⟨c3, b3, k3, hb3, p3, o3, q3, r3, hc3⟩ := step2 hb2 (by decide) (l := [1, 2, 4]) (by decide) hm4 (by decide) (frm := 1) (t := 3) (by decide) (by decide) hf2 (.inr (by decide)) (by rw [q2, q1]; show (0 : Int) < 16; decide)
 obtain ⟨rfl, e3⟩ : c3 = 12 ∧ b3.m2 = b2.m2 := by
  rcases hc3 with ⟨h, _⟩ | ⟨_, h, h'⟩ | ⟨h, _⟩ | ⟨h, _⟩
  ·rw [hv2] at h; cases h
  ·exact ⟨h, h'⟩
  ·omega
  ·omega
 have hb3m : b3.m1 = ⟨1, ents [1, 2], [] ++ [headTo (iKey 1) 1 (ents [1, 2, 4]) 2]⟩ := by rw [o3, e2, e1]; rfl
 have hb3n : b3.m2 = ⟨2, [], []⟩ := by rw [e3, o2, o1]
 have hb3p : b3.pf = none := by rw [p3, p2, p1]
 have h12 : (ents [1, 2]).length ≤ 100000 := by rw [ents_len]; decide
 have k4 := imirror1_c b3 hb3.ps3 (by rw [hb3m]; exact h12) (by rw [hb3m]; exact ents_cz (by decide)) (by rw [hb3m]; decide)
 have hlen13 : (((ents [1, 3]).take 2).drop 0).length = 2 := by rw [List.drop_zero, List.length_take, ents_len]; rfl
 have hok : Okb { b3 with c1 := b3.c1 + 1 } ⟨headTo (iKey 1) 1 (ents [1, 3]) 2, 0, ((ents [1, 3]).take 2).drop 0⟩ := by
  have hmi : Bx.mi { b3 with c1 := b3.c1 + 1 } (headTo (iKey 1) 1 (ents [1, 3]) 2).server = b3.m1 := rfl
  refine ⟨hb3.ps3, by show InL b3.ps; rw [hb3.ps]; exact iPubs_inl, .inl rfl, fun e => by rw [show ((ents [1, 3]).take 2).drop 0 = [] from e] at hlen13; simp at hlen13, by show (((ents [1, 3]).take 2).drop 0).length ≤ 20; omega, fun e he => ents_cz (by decide) e (mem_part he), ((ents_eok (by decide)).take 2).drop 0, ⟨by decide, by decide⟩, ?_, ?_, ?_⟩
  ·show EOk (Bx.mi { b3 with c1 := b3.c1 + 1 } (headTo (iKey 1) 1 (ents [1, 3]) 2).server).entries
   rw [hmi, hb3m]; exact ents_eok (by decide)
  ·show (Bx.mi { b3 with c1 := b3.c1 + 1 } (headTo (iKey 1) 1 (ents [1, 3]) 2).server).entries.length ≤ _
   rw [hmi, hb3m]; show (ents [1, 2]).length ≤ _; omega
  ·show (Bx.mi { b3 with c1 := b3.c1 + 1 } (headTo (iKey 1) 1 (ents [1, 3]) 2).server).heads.length ≤ _
   rw [hmi, hb3m]; decide
 obtain ⟨b4, k5, hb4, p4, o4, n4, q4, r4⟩ := step_fork hb3 (by decide) hok rfl hb3p (m' := mirror0) (small_take b3.m1 (by rw [hb3m]) (by rw [hb3m])) rfl (small_find (m := b3.m1) (by rw [hb3m]) (by rw [hb3m])) small_formed small_srv (by rw [q3, r2, r1]; show (0 : Int) + 1 + 1 < 16; decide)
 have k6 := iconvicted_c b4
 rw [p4] at k6
 have k7 := iOrphans_c b4 (by rw [o4, hb3m]; exact h12) (by rw [n4, hb3n]; decide) (by rw [o4, hb3m]; exact ents_cz (by decide)) (by rw [n4, hb3n]; exact fun _ h => by cases h)
 have k8 := iItems_c b4 (by rw [o4, hb3m]; exact h12) (by rw [n4, hb3n]; decide) (by rw [o4, hb3m]; exact ents_cz (by decide)) (by rw [n4, hb3n]; exact fun _ h => by cases h)
 have hor : (b4.items true).length = 2 := by unfold Bx.items; rw [p4, o4, n4, hb3m, hb3n]; rfl
 have hit : (b4.items false).length = 0 := by unfold Bx.items; rw [p4, o4, n4, hb3m, hb3n]; rfl
 rw [hb3m] at k4
 generalize b4.items true = I1 at *
 generalize b4.items false = I2 at *
 have g0 := entries47_c [1, 2, 4] (by decide) (by decide)
 have g1 := entries47_c [1, 3] (by decide) (by decide)
 have g2 := batch47_c 1 (.inl rfl) (ents [1, 2, 4]) (by rw [ents_len]; decide) (ents_iz (by decide)) 0 2 (by decide) (by rw [ents_len]; decide)
 have g3 := batch47_c 2 (.inr rfl) (ents [1, 2, 4]) (by rw [ents_len]; decide) (ents_iz (by decide)) 1 3 (by decide) (by rw [ents_len]; decide)
 have g4 := batch47_c 1 (.inl rfl) (ents [1, 3]) (by rw [ents_len]; decide) (ents_iz (by decide)) 0 2 (by decide) (by rw [ents_len]; decide)
 have g5 := ipubs_c
 have g6 := iopen_bad Dm.dk0 iPubs rfl
 have hl12 : ((ents [1, 2]).length : Int) = 2 := by rw [ents_len]; rfl
 have hor : (I1.length : Int) = 2 := by omega
 have hit : (I2.length : Int) = 0 := by omega
 have hcv : ((convL (some evSmall)).length : Int) = 1 := rfl
 generalize bx0 d = b0 at *
 generalize ents [1, 2, 4] = L at *
 generalize ents [1, 3] = L3 at *
 generalize ents [1, 2] = L2 at *
 generalize headTo (iKey 1) ((1 : Nat) : Int) L 2 = hd1 at *
 generalize headTo (iKey 2) ((2 : Nat) : Int) L 3 = hd2 at *
 generalize headTo (iKey 1) ((1 : Nat) : Int) L3 2 = hd3 at *
 clear hc1 hc2 hc3 hm1 hm2 hm3 hm4 hok hb0 hb1 hb2 hb3 hb4 hcd
 refine AC.enter2 [9, 12, 22] [] Tryz.func6 rfl (by decide) (by decide) (Nat.le_of_ble_eq_true rfl) (by kernel_rfl) ?_; refine zev ?_
 refine run ?_
 refine call_mk d_new ?_
 refine run ?_
 refine call_mk kopen ?_
 refine run ?_
 refine cp g0 ?_
 refine run ?_
 refine cp g2 ?_
 refine run ?_
 refine call_mk k1 ?_
 refine run ?_
 refine cp g2 ?_
 refine run ?_
 refine call_mk k2 ?_
 refine run ?_
 refine cp g3 ?_
 refine run ?_
 refine call_mk k3 ?_
 refine run ?_
 refine call_mk k4 ?_
 refine run ?_
 refine cp g1 ?_
 refine run ?_
 refine cp g4 ?_
 refine run ?_
 refine call_mk (AC.bx k5 _) ?_
 refine run ?_
 refine call_mk (AC.newAt d_new _) ?_
 refine run ?_
 refine cp g5 ?_
 refine run ?_
 refine Pe.c1 9 g6 ?_
 refine runf (an @hl12 (an @hor (an @hit @hcv))) ?_
 refine call_mk (AC.bx k6 _) ?_
 refine runf (an @hl12 (an @hor (an @hit @hcv))) ?_
 refine call_mk (AC.bx k7 _) ?_
 refine runf (an @hl12 (an @hor (an @hit @hcv))) ?_
 refine call_mk (AC.bx k8 _) ?_
 refine runf (an @hl12 (an @hor (an @hit @hcv))) ?_
 exact er0
end Go.Proofs.YtleljbiejeofgaaGreatDoor.Pe
end
section
namespace Go.Proofs.YtleljbiejeofgaaGreatDoor.Pe
open Go Go.RowKit Co Sg Ac It Sl Wl
set_option maxRecDepth 100000
abbrev boolsV (l : List Bool) : AV := .sl .ro (l.map .bo)
theorem bools_sz (l : List Bool) : allSz 1 (l.map AV.bo) = true := allSz_map 1 AV.bo (fun _ => rfl) _
abbrev cutV (c : Int × Int) : AV := .agg [.it .i64 c.1, .it .i64 c.2]
theorem cuts_sz (l : List (Int × Int)) : allSz 2 (l.map cutV) = true := allSz_map 2 cutV (fun _ => rfl) _
theorem fol_step {b : Bx} {N : Nat} (hb : BI b N) (hN : N ≤ 1000000) (hp : b.pf = none) (h0 : b.c1 = 0) {l : List Int} (hl : l.length ≤ 20) {n k : Nat} (hm : MirW ((1 : Nat) : Int) (ents l) b.m1 n k) (hr : rightM iPubs b.m1 = true) (hk : k ≤ 100) {frm t : Nat} (h1 : frm < t) (h2 : t ≤ l.length) :
  ∃ (c : Int) (b' : Bx) (n' : Nat), AC Tryz.prog 13 [.ptr 3 0, msgB ((1 : Nat) : Int) ⟨headTo (iKey 1) ((1 : Nat) : Int) (ents l) t, frm, ((ents l).take t).drop frm⟩] (XB b) (.it .i64 c) (XB b') ∧ BI b' (N + 4683) ∧ b'.pf = none ∧ MirW ((1 : Nat) : Int) (ents l) b'.m1 n' (k + 1) ∧ rightM iPubs b'.m1 = true ∧
   ((n < frm ∧ c = 12 ∧ n' = n) ∨ (frm ≤ n ∧ t ≤ n ∧ c = 0 ∧ n' = n) ∨ (frm ≤ n ∧ n < t ∧ c = 0 ∧ n' = t)) := by
 have hf := headTo_hf (s := 1) (.inl rfl) (l := l) (by omega) (t := t) (by omega) h2
 have hv := headTo_verify (s := 1) (.inl rfl) (l := l) (by omega) (t := t) (by omega) h2
 have g := ents_good (s := 1) (.inl rfl) (l := l) (by omega)
 obtain ⟨c, b', k1, hb', p, _, _, _, hc⟩ := step1 hb (by omega) hl hm (by omega) h1 h2 hf (.inl hp) (by rw [h0]; decide)
 rcases hc with ⟨h, _⟩ | ⟨h, hc, hm'⟩ | ⟨h, h', hc, hm'⟩ | ⟨h, h', hc, hm'⟩
 ·rw [hv] at h; cases h
 ·exact ⟨c, b', n, k1, hb', p.trans hp, by rw [hm']; exact hm.mono (by omega), by rw [hm']; exact hr, .inl ⟨h, hc, rfl⟩⟩
 ·exact ⟨c, b', n, k1, hb', p.trans hp, by rw [hm']; exact hm.mono (by omega), by rw [hm']; exact hr, .inr (.inl ⟨h, h', hc, rfl⟩)⟩
 ·have hmr : Mir iPubs ((1 : Nat) : Int) (ents l) b.m1 n := ⟨hm.server, hm.le, hm.entries, hr⟩
  refine ⟨c, b', t, k1, hb', p.trans hp, by rw [hm']; exact mirW_next hm h2 _, ?_, .inr (.inr ⟨h, h', hc, rfl⟩)⟩
  rw [hm']
  exact (mir_next g hmr h' (by rw [ents_len]; exact h2)).right
def mn (x : Int) : Int := if x < 16 then x else 16
theorem mn_lt {x : Int} (h : x < 16) : mn x = x := if_pos h
theorem mn_ge {x : Int} (h : 16 ≤ x) : mn x = 16 := if_neg (by omega)
theorem mn_next {x : Int} (h : x < 16) : mn x + 1 = mn (x + 1) := by
 unfold mn
 repeat' split
 all_goals omega
theorem mn_stay {x : Int} (h : 16 ≤ x) : mn x = mn (x + 1) := by rw [mn_ge h, mn_ge (by omega)]
theorem bud_step1 {b : Bx} {N : Nat} (hb : BI b N) (hN : N ≤ 1000000) (hp : b.pf = none) {n1 n2 k : Nat} (hm1 : MirW ((1 : Nat) : Int) (ents [1, 2, 3]) b.m1 n1 k) (hm2 : MirW ((2 : Nat) : Int) (ents [1, 2, 3]) b.m2 n2 k) (hk : k ≤ 100) {x : Int} (h0 : 0 ≤ x) (hc : b.c1 = mn x) {t : Nat} (h1 : 1 ≤ t) (h2 : t ≤ 3) {hd : Head} (hh : HeadFor iPubs ((1 : Nat) : Int) (ents [1, 2, 3]) t hd) :
  ∃ (c : Int) (b' : Bx), AC Tryz.prog 13 [.ptr 3 0, msgB ((1 : Nat) : Int) ⟨hd, (0 : Nat), ((ents [1, 2, 3]).take t).drop 0⟩] (XB b) (.it .i64 c) (XB b') ∧ BI b' (N + 4683) ∧ b'.pf = none ∧ (∃ n, MirW ((1 : Nat) : Int) (ents [1, 2, 3]) b'.m1 n (k + 1)) ∧ (∃ n, MirW ((2 : Nat) : Int) (ents [1, 2, 3]) b'.m2 n (k + 1)) ∧ b'.c1 = mn (x + 1) ∧ b'.c2 = b.c2 ∧
   ((c = 7 ∧ 16 ≤ x) ∨ (c ≠ 7 ∧ x < 16)) := by
 by_cases hx : x < 16
 ·obtain ⟨c, b', k1, hb', p, o1, o2, o3, hc'⟩ := step1 hb (by omega) (l := [1, 2, 3]) (by decide) hm1 (by omega) (frm := 0) (t := t) (by omega) h2 hh (.inl hp) (by rw [hc, mn_lt hx]; exact hx)
  have hoth : ∃ n, MirW ((2 : Nat) : Int) (ents [1, 2, 3]) b'.m2 n (k + 1) := ⟨_, by rw [o1]; exact hm2.mono (by omega)⟩
  have hcc : b'.c1 = mn (x + 1) := by rw [o3, hc, mn_next hx]
  rcases hc' with ⟨_, rfl, hm'⟩ | ⟨_, rfl, hm'⟩ | ⟨_, _, rfl, hm'⟩ | ⟨_, _, rfl, hm'⟩
  ·have hown : ∃ n, MirW ((1 : Nat) : Int) (ents [1, 2, 3]) b'.m1 n (k + 1) := ⟨_, by rw [hm']; exact hm1.mono (by omega)⟩
   exact ⟨_, b', k1, hb', p.trans hp, hown, hoth, hcc, o2, .inr ⟨by decide, hx⟩⟩
  ·have hown : ∃ n, MirW ((1 : Nat) : Int) (ents [1, 2, 3]) b'.m1 n (k + 1) := ⟨_, by rw [hm']; exact hm1.mono (by omega)⟩
   exact ⟨_, b', k1, hb', p.trans hp, hown, hoth, hcc, o2, .inr ⟨by decide, hx⟩⟩
  ·have hown : ∃ n, MirW ((1 : Nat) : Int) (ents [1, 2, 3]) b'.m1 n (k + 1) := ⟨_, by rw [hm']; exact hm1.mono (by omega)⟩
   exact ⟨_, b', k1, hb', p.trans hp, hown, hoth, hcc, o2, .inr ⟨by decide, hx⟩⟩
  ·have hown : ∃ n, MirW ((1 : Nat) : Int) (ents [1, 2, 3]) b'.m1 n (k + 1) := ⟨t, by rw [hm']; exact mirW_next hm1 h2 _⟩
   exact ⟨_, b', k1, hb', p.trans hp, hown, hoth, hcc, o2, .inr ⟨by decide, hx⟩⟩
 ·refine ⟨7, b, itake_fullB1 b _ hb.ps3 (by rw [hc, mn_ge (by omega)]; decide), hb.mono (by omega), hp, ⟨_, hm1.mono (by omega)⟩, ⟨_, hm2.mono (by omega)⟩, by rw [hc]; exact mn_stay (by omega), rfl, .inl ⟨rfl, by omega⟩⟩
theorem bud_step2 {b : Bx} {N : Nat} (hb : BI b N) (hN : N ≤ 1000000) (hp : b.pf = none) {n1 n2 k : Nat} (hm1 : MirW ((1 : Nat) : Int) (ents [1, 2, 3]) b.m1 n1 k) (hm2 : MirW ((2 : Nat) : Int) (ents [1, 2, 3]) b.m2 n2 k) (hk : k ≤ 100) {x : Int} (h0 : 0 ≤ x) (hc : b.c2 = mn x) {t : Nat} (h1 : 1 ≤ t) (h2 : t ≤ 3) {hd : Head} (hh : HeadFor iPubs ((2 : Nat) : Int) (ents [1, 2, 3]) t hd) :
  ∃ (c : Int) (b' : Bx), AC Tryz.prog 13 [.ptr 3 0, msgB ((2 : Nat) : Int) ⟨hd, (0 : Nat), ((ents [1, 2, 3]).take t).drop 0⟩] (XB b) (.it .i64 c) (XB b') ∧ BI b' (N + 4683) ∧ b'.pf = none ∧ (∃ n, MirW ((1 : Nat) : Int) (ents [1, 2, 3]) b'.m1 n (k + 1)) ∧ (∃ n, MirW ((2 : Nat) : Int) (ents [1, 2, 3]) b'.m2 n (k + 1)) ∧ b'.c2 = mn (x + 1) ∧ b'.c1 = b.c1 ∧
   ((c = 7 ∧ 16 ≤ x) ∨ (c ≠ 7 ∧ x < 16)) := by
 by_cases hx : x < 16
 ·obtain ⟨c, b', k1, hb', p, o1, o2, o3, hc'⟩ := step2 hb (by omega) (l := [1, 2, 3]) (by decide) hm2 (by omega) (frm := 0) (t := t) (by omega) h2 hh (.inl hp) (by rw [hc, mn_lt hx]; exact hx)
  have hoth : ∃ n, MirW ((1 : Nat) : Int) (ents [1, 2, 3]) b'.m1 n (k + 1) := ⟨_, by rw [o1]; exact hm1.mono (by omega)⟩
  have hcc : b'.c2 = mn (x + 1) := by rw [o3, hc, mn_next hx]
  rcases hc' with ⟨_, rfl, hm'⟩ | ⟨_, rfl, hm'⟩ | ⟨_, _, rfl, hm'⟩ | ⟨_, _, rfl, hm'⟩
  ·have hown : ∃ n, MirW ((2 : Nat) : Int) (ents [1, 2, 3]) b'.m2 n (k + 1) := ⟨_, by rw [hm']; exact hm2.mono (by omega)⟩
   exact ⟨_, b', k1, hb', p.trans hp, hoth, hown, hcc, o2, .inr ⟨by decide, hx⟩⟩
  ·have hown : ∃ n, MirW ((2 : Nat) : Int) (ents [1, 2, 3]) b'.m2 n (k + 1) := ⟨_, by rw [hm']; exact hm2.mono (by omega)⟩
   exact ⟨_, b', k1, hb', p.trans hp, hoth, hown, hcc, o2, .inr ⟨by decide, hx⟩⟩
  ·have hown : ∃ n, MirW ((2 : Nat) : Int) (ents [1, 2, 3]) b'.m2 n (k + 1) := ⟨_, by rw [hm']; exact hm2.mono (by omega)⟩
   exact ⟨_, b', k1, hb', p.trans hp, hoth, hown, hcc, o2, .inr ⟨by decide, hx⟩⟩
  ·have hown : ∃ n, MirW ((2 : Nat) : Int) (ents [1, 2, 3]) b'.m2 n (k + 1) := ⟨t, by rw [hm']; exact mirW_next hm2 h2 _⟩
   exact ⟨_, b', k1, hb', p.trans hp, hoth, hown, hcc, o2, .inr ⟨by decide, hx⟩⟩
 ·refine ⟨7, b, itake_fullB2 b _ hb.ps3 (by rw [hc, mn_ge (by omega)]; decide), hb.mono (by omega), hp, ⟨_, hm1.mono (by omega)⟩, ⟨_, hm2.mono (by omega)⟩, by rw [hc]; exact mn_stay (by omega), rfl, .inl ⟨rfl, by omega⟩⟩
theorem spl_step1 {b : Bx} {N : Nat} (hb : BI b N) (hN : N ≤ 1000000) (hp : b.pf = none) (h0 : b.c1 ≤ 1) {l : List Int} (hl : l.length ≤ 20) {n k : Nat} (hm : MirW ((1 : Nat) : Int) (ents l) b.m1 n k) (hk : k ≤ 100) (h2 : n + 1 ≤ l.length) :
  ∃ (b' : Bx), AC Tryz.prog 13 [.ptr 3 0, msgB ((1 : Nat) : Int) ⟨headTo (iKey 1) ((1 : Nat) : Int) (ents l) (n + 1), n, ((ents l).take (n + 1)).drop n⟩] (XB b) (.it .i64 0) (XB b') ∧ BI b' (N + 4683) ∧ b'.pf = none ∧ MirW ((1 : Nat) : Int) (ents l) b'.m1 (n + 1) (k + 1) ∧ b'.m2 = b.m2 ∧ b'.c2 = b.c2 := by
 have hf := headTo_hf (s := 1) (.inl rfl) (l := l) (by omega) (t := n + 1) (by omega) h2
 have hv := headTo_verify (s := 1) (.inl rfl) (l := l) (by omega) (t := n + 1) (by omega) h2
 obtain ⟨c, b', k1, hb', p, o1, o2, _, hc⟩ := step1 hb (by omega) hl hm (by omega) (Nat.lt_succ_self n) h2 hf (.inl hp) (by omega)
 rcases hc with ⟨h, _⟩ | ⟨h, _⟩ | ⟨_, h, _⟩ | ⟨_, _, rfl, hm'⟩
 ·rw [hv] at h; cases h
 ·omega
 ·omega
 ·exact ⟨b', k1, hb', p.trans hp, by rw [hm']; exact mirW_next hm h2 _, o1, o2⟩
theorem spl_step2 {b : Bx} {N : Nat} (hb : BI b N) (hN : N ≤ 1000000) (h0 : b.c2 ≤ 1) {l : List Int} (hl : l.length ≤ 20) {n k : Nat} (hm : MirW ((2 : Nat) : Int) (ents l) b.m2 n k) (hk : k ≤ 100) (h2 : n + 1 ≤ l.length) :
  ∃ (b' : Bx), AC Tryz.prog 13 [.ptr 3 0, msgB ((2 : Nat) : Int) ⟨headTo (iKey 2) ((2 : Nat) : Int) (ents l) (n + 1), n, ((ents l).take (n + 1)).drop n⟩] (XB b) (.it .i64 0) (XB b') ∧ BI b' (N + 4683) ∧ b'.pf = b.pf ∧ MirW ((2 : Nat) : Int) (ents l) b'.m2 (n + 1) (k + 1) ∧ b'.m1 = b.m1 := by
 have hf := headTo_hf (s := 2) (.inr rfl) (l := l) (by omega) (t := n + 1) (by omega) h2
 have hv := headTo_verify (s := 2) (.inr rfl) (l := l) (by omega) (t := n + 1) (by omega) h2
 obtain ⟨c, b', k1, hb', p, o1, o2, _, hc⟩ := step2 hb (by omega) hl hm (by omega) (Nat.lt_succ_self n) h2 hf (.inr (by decide)) (by omega)
 rcases hc with ⟨h, _⟩ | ⟨h, _⟩ | ⟨_, h, _⟩ | ⟨_, _, rfl, hm'⟩
 ·rw [hv] at h; cases h
 ·omega
 ·omega
 ·exact ⟨b', k1, hb', p, by rw [hm']; exact mirW_next hm h2 _, o1⟩
end Go.Proofs.YtleljbiejeofgaaGreatDoor.Pe
end
