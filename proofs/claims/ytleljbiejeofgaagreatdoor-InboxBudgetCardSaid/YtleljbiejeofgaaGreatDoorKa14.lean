/- Several texts in one, without what this claim does not use (tools/shake.py). -/
import Derived.Test.YtleljbiejeofgaaGreatDoorKa13
set_option linter.unusedSectionVars false
set_option linter.unusedVariables false
set_option linter.unusedSimpArgs false
section
namespace Go.Proofs.YtleljbiejeofgaaGreatDoor
open Go.RowKit Dm
section
variable {S : Nat → Prop} {w : World} {g : Nat} {d : Dk}
theorem beginD_zero {l : List Int} (h : (beginD d l).1 = 0) : l.all kn = true := by
  unfold beginD struck at h
  split at h
  · cases h
  split at h
  · cases h
  · simp only at h
    split at h
    · assumption
    · cases h
theorem Kp.lit1 (w : World) (t : TypeId) (x : Int) : Kp (w.alloc (.cells #[.int .i64 x] t)) (.slice (some ⟨w.heap.size, 0, none⟩) 1 1) [x] :=
  ⟨_, 1, rfl, Nat.le_refl _, fun _ => ⟨w.heap.size, 0, rfl, fun j hj => by
    obtain rfl : j = 0 := by simpa using hj
    rw [Nat.zero_add, cell_of_row _ _ 0 _ _ _ (heap_alloc_new w _)]
    rfl⟩⟩
theorem bl_ne {n m : Nat} (h : g < w.heap.size) : ∀ b, bl (.slice (some ⟨w.heap.size, 0, none⟩) n (m + 1)) = some b → b ≠ g := fun b hb => by
  have : w.heap.size = b := Option.some.inj hb
  omega
set_option maxRecDepth 100000 in
set_option maxHeartbeats 1000000 in
theorem flush_any (h : DRep w S g d) (ho : Ok d) (hS : ∀ b, w.heap.size ≤ b → S b) (f : Int) :
    Calls Tryz.prog 100 #[.pointer (some ⟨g, 0, none⟩), .int .i64 f] w fun e w' => e = .returned (.int .i64 (flushD d f).1) ∧ DRep w' S g (flushD d f).2 ∧ Fr S w w' := by
  have hgS := Veil.mk (show ∀ b, b = g → S b from fun b hb => by rw [hb]; exact h.at')
  have HD := Veil.mk (h.alloc (.cells #[.int .i64 f] 3))
  have HO := Veil.mk ho
  have Hne := Veil.mk (bl_ne (n := 1) (m := 0) h.lt)
  have Hgl := Veil.mk h.lt
  have HKl := Veil.mk (Kp.lit1 w 3 f)
  have HO1 := Veil.mk (begin_ok ho [f])
  have hz := beginD_zero (d := d) (l := [f])
  have hF : flushD d f = (if (beginD d [f]).1 ≠ 0 then beginD d [f] else if 0 < (beginD d [f]).2.lost then (18, { (beginD d [f]).2 with lost := (beginD d [f]).2.lost - 1 }) else (0, { (beginD d [f]).2 with fs := upd (beginD d [f]).2.fs f.toNat ⟨((beginD d [f]).2.fs f.toNat).data, ((beginD d [f]).2.fs f.toNat).data.length⟩ })) := rfl
  have hB := begin_any HD.out ho (.slice (some ⟨w.heap.size, 0, none⟩) 1 1) [f] HKl.out Hne.out (by show 1 ≤ 1000; omega)
  obtain ⟨e1, D1, hbe⟩ : ∃ e1 D1, beginD d [f] = (e1, D1) := ⟨_, _, rfl⟩
  rw [hbe] at hB hF HO1 hz
  simp only at hB hF HO1 hz
  have HF := Veil.mk hF
  have HB := Veil.mk hB
  clear hF hB h ho HD HKl hbe
  by_cases h0 : e1 = 0
  · subst h0
    have hkf : kn f = true := by simpa using hz rfl
    obtain ⟨n, rfl, hn⟩ := kn_form hkf
    clear hz hkf
    by_cases hl : 0 < D1.lost
    · have HF2 : Veil (flushD d (n : Int) = (18, { D1 with lost := D1.lost - 1 })) := ⟨by rw [HF.out, if_neg (by simp), if_pos hl]⟩
      have hll := HO1.out.lost
      go_enter Tryz.func100, Tryz.ntmps100
      go_wp2_with ((go_at_call 147
                    refine HB.out.mono ?_
                    rintro e w1 ⟨rfl, HD1, HF1⟩
                    have c17 := HD1.cLost
                    have f17 := HD1.free 17
                    have HD2 : Veil (∀ q : Int, q = (D1.lost : Int) - 1 → DRep (w1.setCell ⟨g, 17, none⟩ (.int .i64 q)) S g { D1 with lost := D1.lost - 1 }) := ⟨fun q hq => by
                      rw [show q = ((D1.lost - 1 : Nat) : Int) from by omega]; exact HD1.setLost (D1.lost - 1)⟩
                    have HF1 := Veil.mk ((Fr.alloc (S := S) w (.cells #[.int .i64 (n : Int)] 3)).trans (HF1.more hgS.out))
                    clear HD1))
      go_ret
      refine ⟨?_, ?_, HF1.out.trans (Fr.setCell (p := ⟨g, 17, none⟩) (hgS.out g rfl) _)⟩
      · rw [HF2.out]; rfl
      · rw [HF2.out]; exact HD2.out _ (by omega)
    · have HF2 : Veil (flushD d (n : Int) = (0, { D1 with fs := upd D1.fs n ⟨(D1.fs n).data, (D1.fs n).data.length⟩ })) := ⟨by rw [HF.out, if_neg (by simp), if_neg hl]; rfl⟩
      have hn8 : (n : Int) < 8 := by omega
      go_enter Tryz.func100, Tryz.ntmps100
      go_wp2_with ((go_at_call 147
                    refine HB.out.mono ?_
                    rintro e w1 ⟨rfl, HD1, HF1⟩
                    have c17 := HD1.cLost
                    obtain ⟨A, c, cn, hc⟩ := HD1.cLen n hn _ rfl
                    have cdu := HD1.cDur n hn
                    have fdu := HD1.free (n * 2 + 1)
                    have HD2 := Veil.mk ((HD1.drewN 1).setDur n hn (D1.fs n).data.length)
                    have HF1 := Veil.mk ((Fr.alloc (S := S) w (.cells #[.int .i64 (n : Int)] 3)).trans (HF1.more hgS.out))
                    clear HD1))
      refine wp_region_still_tail 14 (by kernel_rfl) (by kernel_rfl) ?_
      simp only [List.take_succ_cons, List.take_zero, List.drop_succ_cons, List.drop_zero]
      repeat still_step
      refine wpStill_nil ?_
      change wpList _ _ _ _ _ w1.drew
      go_wp2
      go_ret
      refine ⟨?_, ?_, HF1.out.trans ((Fr.drewN w1 1).trans (Fr.setCell (p := ⟨g, n * 2 + 1, none⟩) (hgS.out g rfl) _))⟩
      · rw [HF2.out]; rfl
      · rw [HF2.out]; exact HD2.out
  · have HF2 : Veil (flushD d f = (e1, D1)) := ⟨by rw [HF.out, if_pos h0]⟩
    clear hz
    have h0' : (e1 == 0) = false := beq_false_of_ne h0
    go_enter Tryz.func100, Tryz.ntmps100
    go_wp2_with ((go_at_call 147
                  refine HB.out.mono ?_
                  rintro e w1 ⟨rfl, HD1, HF1⟩
                  have HD1 := Veil.mk HD1
                  have HF1 := Veil.mk ((Fr.alloc (S := S) w (.cells #[.int .i64 f] 3)).trans (HF1.more hgS.out))))
    go_ret
    refine ⟨?_, ?_, HF1.out⟩
    · rw [HF2.out]; rfl
    · rw [HF2.out]; exact HD1.out
end
end Go.Proofs.YtleljbiejeofgaaGreatDoor
end
section
namespace Go.Proofs.YtleljbiejeofgaaGreatDoor
open Go.RowKit Dm
section
variable {S : Nat → Prop} {w : World} {g : Nat} {d : Dk}
set_option maxRecDepth 100000 in
set_option maxHeartbeats 1000000 in
theorem cut_any (h : DRep w S g d) (ho : Ok d) (hS : ∀ b, w.heap.size ≤ b → S b) (f m : Int) :
    Calls Tryz.prog 98 #[.pointer (some ⟨g, 0, none⟩), .int .i64 f, .int .i64 m] w fun e w' => e = .returned (.int .i64 (cutD d f m).1) ∧ DRep w' S g (cutD d f m).2 ∧ Fr S w w' := by
  have hgS := Veil.mk (show ∀ b, b = g → S b from fun b hb => by rw [hb]; exact h.at')
  have HD := Veil.mk (h.alloc (.cells #[.int .i64 f] 3))
  have Hne := Veil.mk (bl_ne (n := 1) (m := 0) h.lt)
  have HKl := Veil.mk (Kp.lit1 w 3 f)
  have HO1 := Veil.mk (begin_ok ho [f])
  have hz := beginD_zero (d := d) (l := [f])
  have hF : cutD d f m = (if (beginD d [f]).1 ≠ 0 then beginD d [f] else if m < 0 ∨ (size (beginD d [f]).2 f : Int) < m then (1, (beginD d [f]).2) else (0, { (beginD d [f]).2 with fs := upd (beginD d [f]).2.fs f.toNat (((beginD d [f]).2.fs f.toNat).trunc m.toNat) })) := rfl
  have hB := begin_any HD.out ho (.slice (some ⟨w.heap.size, 0, none⟩) 1 1) [f] HKl.out Hne.out (by show 1 ≤ 1000; omega)
  obtain ⟨e1, D1, hbe⟩ : ∃ e1 D1, beginD d [f] = (e1, D1) := ⟨_, _, rfl⟩
  rw [hbe] at hB hF HO1 hz
  simp only at hB hF HO1 hz
  have HF := Veil.mk hF
  have HB := Veil.mk hB
  clear hF hB h ho HD HKl hbe
  by_cases h0 : e1 = 0
  · subst h0
    have hkf : kn f = true := by simpa using hz rfl
    obtain ⟨n, rfl, hn⟩ := kn_form hkf
    clear hz
    have hn8 : (n : Int) < 8 := by omega
    have hsz : size D1 (n : Int) = (D1.fs n).data.length := by unfold size; rw [hkf]; rfl
    rw [hsz] at HF
    have Hsz := Veil.mk hsz; clear hsz hkf
    by_cases hm0 : m < 0
    · have HF2 : Veil (cutD d (n : Int) m = (1, D1)) := ⟨by rw [HF.out, if_neg (by simp), if_pos (.inl hm0)]⟩
      go_enter Tryz.func98, Tryz.ntmps98
      go_wp2_with ((go_at_call 147
                    refine HB.out.mono ?_
                    rintro e w1 ⟨rfl, HD1, HF1⟩
                    have HD1 := Veil.mk HD1
                    have HF1 := Veil.mk ((Fr.alloc (S := S) w (.cells #[.int .i64 (n : Int)] 3)).trans (HF1.more hgS.out))))
      go_ret
      refine ⟨?_, ?_, HF1.out⟩
      · rw [HF2.out]; rfl
      · rw [HF2.out]; exact HD1.out
    · obtain ⟨k, rfl⟩ := Int.eq_ofNat_of_zero_le (show 0 ≤ m by omega)
      by_cases hmk : (D1.fs n).data.length < k
      · have HF2 : Veil (cutD d (n : Int) (k : Int) = (1, D1)) := ⟨by rw [HF.out, if_neg (by simp), if_pos (.inr (by omega))]⟩
        have hmi : ((D1.fs n).data.length : Int) < (k : Int) := by omega
        go_enter Tryz.func98, Tryz.ntmps98
        go_wp2_with (first
          | (go_at_call 147
             refine HB.out.mono ?_
             rintro e w1 ⟨rfl, HD1, HF1⟩
             have HD1 := Veil.mk HD1
             have HF1 := Veil.mk ((Fr.alloc (S := S) w (.cells #[.int .i64 (n : Int)] 3)).trans (HF1.more hgS.out)))
          | (go_at_call 148
             refine (size_any HD1.out _).mono ?_
             rintro e w2 ⟨rfl, rfl⟩
             rw [Hsz.out]))
        go_ret
        refine ⟨?_, ?_, HF1.out⟩
        · rw [HF2.out]; rfl
        · rw [HF2.out]; exact HD1.out
      · have HF2 : Veil (cutD d (n : Int) (k : Int) = (0, { D1 with fs := upd D1.fs n ((D1.fs n).trunc k) })) := ⟨by rw [HF.out, if_neg (by simp), if_neg (by omega)]; rfl⟩
        have hmi : ¬ ((D1.fs n).data.length : Int) < (k : Int) := by omega
        have Hkl : Veil (k ≤ (D1.fs n).data.length) := ⟨by omega⟩
        clear hmk
        go_enter Tryz.func98, Tryz.ntmps98
        go_wp2_with (first
          | (go_at_call 147
             refine HB.out.mono ?_
             rintro e w1 ⟨rfl, HD1, HF1⟩
             have HD1 := Veil.mk HD1
             have HF1 := Veil.mk ((Fr.alloc (S := S) w (.cells #[.int .i64 (n : Int)] 3)).trans (HF1.more hgS.out)))
          | (go_at_call 148
             refine (size_any HD1.out _).mono ?_
             rintro e w2 ⟨rfl, rfl⟩
             rw [Hsz.out])
          | (go_at_call 149
             refine (trunc_any HD1.out n hn k _ Hkl.out rfl).mono ?_
             rintro e w2 ⟨rfl, HD2, HF2'⟩
             have HD2 := Veil.mk HD2
             have HF1 := Veil.mk (HF1.out.trans (HF2'.more hgS.out))))
        go_ret
        refine ⟨?_, ?_, HF1.out⟩
        · rw [HF2.out]; rfl
        · rw [HF2.out]; exact HD2.out
  · have HF2 : Veil (cutD d f m = (e1, D1)) := ⟨by rw [HF.out, if_pos h0]⟩
    clear hz
    have h0' : (e1 == 0) = false := beq_false_of_ne h0
    go_enter Tryz.func98, Tryz.ntmps98
    go_wp2_with ((go_at_call 147
                  refine HB.out.mono ?_
                  rintro e w1 ⟨rfl, HD1, HF1⟩
                  have HD1 := Veil.mk HD1
                  have HF1 := Veil.mk ((Fr.alloc (S := S) w (.cells #[.int .i64 f] 3)).trans (HF1.more hgS.out))))
    go_ret
    refine ⟨?_, ?_, HF1.out⟩
    · rw [HF2.out]; rfl
    · rw [HF2.out]; exact HD1.out
end
theorem DRep.fresh (w : World) (S : Nat → Prop) (hS : ∀ b, w.heap.size ≤ b → S b) (cs : Array Value) (hc : cs = (List.replicate 8 [Value.slice none 0 0, .int .i64 0]).flatten.toArray ++ #[.bool false, .int .i64 0, .int .i64 0, .slice none 0 0]) :
    DRep (w.alloc (.cells cs 76)) S w.heap.size dk0 := by
  subst hc
  refine ⟨fun _ => .slice none 0 0, .slice none 0 0, World.rowIs_alloc w _ _ (cellD (fun _ => .slice none 0 0) (.slice none 0 0) dk0) fun i hi => ?_, hS _ (Nat.le_refl _), fun i _ => Fil.nil _, fun i b _ hb => (by cases hb), fun i j b _ _ _ hb => (by cases hb), Kp.nil _, fun b hb => (by cases hb), fun i b _ hb => (by cases hb), fun b hb => (by cases hb)⟩
  have hi : i < 20 := hi
  rcases i with _ | _ | _ | _ | _ | _ | _ | _ | _ | _ | _ | _ | _ | _ | _ | _ | _ | _ | _ | _ | i
  all_goals first | rfl | omega
set_option maxRecDepth 100000 in
theorem new_any (w : World) (S : Nat → Prop) (hS : ∀ b, w.heap.size ≤ b → S b) :
    Calls Tryz.prog 8 #[] w fun e w' => ∃ g, e = .returned (.pointer (some ⟨g, 0, none⟩)) ∧ DRep w' S g dk0 ∧ Fr S w w' ∧ g = w.heap.size := by
  have H := Veil.mk (DRep.fresh w S hS _ rfl)
  go_enter Tryz.func8, Tryz.ntmps8
  go_wp2
  go_ret
  exact ⟨_, rfl, H.out, Fr.alloc _ _, rfl⟩
end Go.Proofs.YtleljbiejeofgaaGreatDoor
end
section
namespace Go.Proofs.YtleljbiejeofgaaGreatDoor
open Go.RowKit Dm
set_option maxRecDepth 100000
section
variable {S : Nat → Prop} {w : World} {g : Nat} {d : Dk}
end
end Go.Proofs.YtleljbiejeofgaaGreatDoor
end
section
namespace Go.Proofs.YtleljbiejeofgaaGreatDoor
open Go.RowKit Dm
structure Copied (w wr : World) (vs : Nat → Value) (kv : Value) (d : Dk) (k : Nat) (vs' : Nat → Value) : Prop where
  row : wr.rowIs w.heap.size 76 20 (cellD (fun i => if i < k then vs' i else vs i) kv d)
  grown : w.grownBy wr none
  fil : ∀ i, i < k → Fil wr (vs' i) (d.fs i).data
  own : ∀ i b, i < k → bl (vs' i) = some b → w.heap.size < b ∧ b < wr.heap.size
  apart : ∀ i j b, i < k → j < k → i ≠ j → bl (vs' i) = some b → bl (vs' j) ≠ some b
section
variable {S : Nat → Prop} {w : World} {g : Nat} {d : Dk}
end
end Go.Proofs.YtleljbiejeofgaaGreatDoor
end
section
namespace Go.Proofs.YtleljbiejeofgaaGreatDoor.Pe
open Go Go.RowKit Dm
variable [Tab]
section
variable {P : Program} {w w' : World} {g : Gh}
theorem drep_lt {S : Nat → Prop} {p : Nat} {d : Dk} (h : DRep w S p d) : DRep w (fun b => S b ∧ b < w.heap.size) p d := by
  obtain ⟨vs, kv, hr, h⟩ := h
  exact ⟨vs, kv, hr, ⟨h.head, hr.lt⟩, h.fil, fun i b hi hb => ⟨⟨(h.own i b hi hb).1, (h.fil i hi).block b hb⟩, (h.own i b hi hb).2⟩, h.apart, h.kp, fun b hb => ⟨⟨(h.kown b hb).1, h.klt b hb⟩, (h.kown b hb).2⟩, h.kapart, h.klt⟩
abbrev XD (d : Dk) : SObj := .ext fun w p S => DRep w S p d ∧ Ok d
theorem AC.ofFr {f : FuncId} {args : List AV} {v : AV} {X X' : World → Nat → (Nat → Prop) → Prop} (hcan : callable P f = true)
    (hX : ∀ w p (S T : Nat → Prop), X w p S → (∀ b, S b → T b) → X w p T)
    (hX' : ∀ (w w' : World) p (S : Nat → Prop), X' w p S → (∀ b, S b ∧ b < w.heap.size → w'.heap[b]? = w.heap[b]?) → X' w' p (fun b => S b ∧ b < w.heap.size))
    (h : ∀ (w : World) (g : Gh) (S : Nat → Prop) (cargs : Array Value), LRel w g args cargs → g.buf 0 = false → 0 < g.nid → g.G (g.pl 0) = 0 → S (g.pl 0) → (∀ b, w.heap.size ≤ b → S b) → X w (g.pl 0) S →
      Calls P f cargs w fun r w' => ∃ cv, r = .returned cv ∧ (∀ g', Rel w' g' v cv) ∧ X' w' (g.pl 0) S ∧ Fr S w w') : AC P f args [.ext X] v [.ext X'] := by
  refine ⟨hcan, fun w g cargs hw hargs => ?_⟩
  obtain ⟨ho1, ho2, ho3, ho4⟩ := hw.obj 0 _ rfl
  have hn : g.nid = 1 := hw.nid
  have hlt := hw.lt 0
  refine (h w g (fun b => g.own 0 b ∨ w.heap.size ≤ b) cargs hargs ho1 (by omega) (ho3 _ ho2) (.inl ho2) (fun b hb => .inr hb) (hX _ _ _ _ (ho4 w (fun _ _ => rfl)) fun b hb => .inl hb)).mono ?_
  rintro r w' ⟨cv, rfl, h1, h2, h3⟩
  have hb : ∀ b, b < w.heap.size → ¬ g.own 0 b → w'.heap[b]? = w.heap[b]? := fun b hb hno => h3.block b hb (fun e => e.elim hno (fun e => by omega))
  have hsz := h3.size
  generalize hg' : ({ g with own := fun l b => if l = 0 then (g.own 0 b ∨ w.heap.size ≤ b) ∧ b < w'.heap.size else g.own l b, G := fun b => if b < w.heap.size then g.G b else 0 } : Gh) = g'
  have eG : ∀ b, b < w.heap.size → g'.G b = g.G b := fun b hb => by rw [← hg']; exact if_pos hb
  have eG0 : ∀ b, ¬ b < w.heap.size → g'.G b = 0 := fun b hb => by rw [← hg']; exact if_neg hb
  have eo : g'.own 0 = fun b => (g.own 0 b ∨ w.heap.size ≤ b) ∧ b < w'.heap.size := by rw [← hg']; rfl
  have epl : g'.pl = g.pl := by rw [← hg']
  have ebuf : g'.buf = g.buf := by rw [← hg']
  have enid : g'.nid = g.nid := by rw [← hg']
  have ewm : g'.wm = g.wm := by rw [← hg']
  have ecap : g'.cap = g.cap := by rw [← hg']
  clear hg'
  have hcl : ∀ b o u, w.cell? ⟨b, o, none⟩ = some u → b < w.heap.size := fun b o u hu => World.block_lt_of_cell? w _ hu
  have hle : Le w g w' g' := ⟨fun b o u hG hc => by
      rw [World.cell?_of_block (hb b (hcl b o u hc) (fun e => by rw [ho3 b e] at hG; omega))]; exact hc,
    fun b o u hG hc => by rw [eG b (hcl b o u hc)]; exact hG, by rw [enid]; exact Nat.le_refl _, fun l _ => ⟨by rw [ebuf], .inl ⟨by rw [epl], by rw [ewm], by rw [ecap]⟩⟩,
    fun b me c hG hm => by
      have hlt' := (Array.getElem?_eq_some_iff.1 hm).1
      have hno : ¬ g.own 0 b := fun e => by rw [ho3 b e] at hG; omega
      exact ⟨by rw [eG b hlt']; exact hG, (hb b hlt' hno).trans hm⟩⟩
  refine ⟨cv, g', rfl, ?_, h1 g', ?_⟩
  · refine hw.touch (l := 0) (by simp) hle enid (fun k hk hk' => by omega) (fun b hbo => ?_) hsz (fun b hb _ => eG b hb) hb ?_
    · rw [eo] at hbo
      rcases hbo with ⟨h | h, h'⟩
      · exact .inl h
      · exact .inr ⟨h, h'⟩
    · refine ⟨by rw [ebuf]; exact ho1, ?_, ?_, ?_⟩
      · rw [eo, epl]; exact ⟨.inl ho2, by have := hlt _ (by omega) ho2; omega⟩
      · intro b hbo
        rw [eo] at hbo
        by_cases hlt' : b < w.heap.size
        · rw [eG b hlt']; exact ho3 b (hbo.1.elim id fun e => by omega)
        · exact eG0 b hlt'
      · intro w'' hs
        rw [eo, epl]
        rw [eo] at hs
        exact hX' w' w'' _ _ h2 hs
  · refine ⟨hle, h3.os, h3.tape, h3.output, hsz, fun b hlt' hno => hb b hlt' (hno 0 (by omega)), fun l b hl hbo hlt' => ?_, fun b hlt' _ => eG b hlt'⟩
    rw [enid] at hl
    obtain rfl : l = 0 := by omega
    rw [eo] at hbo
    exact ⟨hl, hbo.1.elim id fun e => by omega⟩
theorem AC.newFr {f : FuncId} {args : List AV} {S0 : Store} {X : World → Nat → (Nat → Prop) → Prop} (hcan : callable P f = true)
    (hX' : ∀ (w w' : World) p (S : Nat → Prop), X w p S → (∀ b, S b ∧ b < w.heap.size → w'.heap[b]? = w.heap[b]?) → X w' p (fun b => S b ∧ b < w.heap.size))
    (hp : ∀ w p S, X w p S → S p ∧ p < w.heap.size)
    (h : ∀ (w : World) (g : Gh) (cargs : Array Value), WF w g S0 → LRel w g args cargs →
      Calls P f cargs w fun r w' => ∃ p, r = .returned (.pointer (some ⟨p, 0, none⟩)) ∧ X w' p (fun b => w.heap.size ≤ b) ∧ Fr (fun b => w.heap.size ≤ b) w w') : AC P f args S0 (.ptr S0.length 0) (S0 ++ [.ext X]) := by
  refine ⟨hcan, fun w g cargs hw hargs => (h w g cargs hw hargs).mono ?_⟩
  rintro r w' ⟨p, rfl, h2, h3⟩
  have hb : ∀ b, b < w.heap.size → w'.heap[b]? = w.heap[b]? := fun b hb => h3.block b hb (by omega)
  have hsz := h3.size
  have hn : g.nid = S0.length := hw.nid
  have hpp := hp _ _ _ h2
  generalize hg' : (⟨fun b => if b < w.heap.size then g.G b else 0, fun l => if l = g.nid then p else g.pl l, fun l b => if l = g.nid then w.heap.size ≤ b ∧ b < w'.heap.size else g.own l b, g.nid + 1, fun l => if l = g.nid then false else g.buf l, g.wm, g.cap⟩ : Gh) = g'
  have eG : ∀ b, b < w.heap.size → g'.G b = g.G b := fun b hb => by rw [← hg']; exact if_pos hb
  have eG0 : ∀ b, ¬ b < w.heap.size → g'.G b = 0 := fun b hb => by rw [← hg']; exact if_neg hb
  have eo : g'.own g.nid = fun b => w.heap.size ≤ b ∧ b < w'.heap.size := by rw [← hg']; funext b; exact if_pos rfl
  have eo' : ∀ l, l ≠ g.nid → g'.own l = g.own l := fun l hl => by rw [← hg']; funext b; exact if_neg hl
  have epl : g'.pl g.nid = p := by rw [← hg']; exact if_pos rfl
  have epl' : ∀ l, l ≠ g.nid → g'.pl l = g.pl l := fun l hl => by rw [← hg']; exact if_neg hl
  have ebuf : g'.buf g.nid = false := by rw [← hg']; exact if_pos rfl
  have ebuf' : ∀ l, l ≠ g.nid → g'.buf l = g.buf l := fun l hl => by rw [← hg']; exact if_neg hl
  have enid : g'.nid = g.nid + 1 := by rw [← hg']
  have ewm : g'.wm = g.wm := by rw [← hg']
  have ecap : g'.cap = g.cap := by rw [← hg']
  clear hg'
  have hcl : ∀ b o u, w.cell? ⟨b, o, none⟩ = some u → b < w.heap.size := fun b o u hu => World.block_lt_of_cell? w _ hu
  have hle : Le w g w' g' := ⟨fun b o u hG hc => by rw [World.cell?_of_block (hb b (hcl b o u hc))]; exact hc,
    fun b o u hG hc => by rw [eG b (hcl b o u hc)]; exact hG, by rw [enid]; omega, fun l hl => ⟨ebuf' l (by omega), .inl ⟨epl' l (by omega), by rw [ewm], by rw [ecap]⟩⟩,
    fun b me c hG hm => by
      have hlt' := (Array.getElem?_eq_some_iff.1 hm).1
      exact ⟨by rw [eG b hlt']; exact hG, (hb b hlt').trans hm⟩⟩
  refine ⟨_, g', rfl, ⟨by rw [enid, hn, List.length_append]; rfl, fun l o hl => ?_, fun l l' b hl hl' ho ho' => ?_, fun l b hl ho => ?_, hw.tab.le hle⟩, ?_, ?_⟩
  · by_cases hln : l = g.nid
    · subst hln
      rw [List.getElem?_append_right (by omega), hn, Nat.sub_self] at hl
      cases hl
      refine ⟨ebuf, ?_, ?_, ?_⟩
      · rw [eo, epl]; exact hpp
      · intro b hbo
        rw [eo] at hbo
        exact eG0 b (by omega)
      · intro w'' hs
        rw [eo, epl]
        rw [eo] at hs
        exact hX' w' w'' _ _ h2 hs
    · have hlt : l < g.nid := by have := (List.getElem?_eq_some_iff.1 hl).1; rw [List.length_append] at this; simp at this; omega
      rw [List.getElem?_append_left (by omega)] at hl
      exact (hw.obj l o hl).keep hle (epl' l hln) (ebuf' l hln) (by rw [ewm]) (by rw [ecap]) (eo' l hln) (fun b hbo => eG b (hw.lt l b hlt hbo)) (fun b hbo => hb b (hw.lt l b hlt hbo))
  · rw [enid] at hl hl'
    by_cases h1 : l = g.nid <;> by_cases h2 : l' = g.nid
    · rw [h1, h2]
    · subst h1; rw [eo] at ho; rw [eo' l' h2] at ho'; have := hw.lt l' b (by omega) ho'; omega
    · subst h2; rw [eo] at ho'; rw [eo' l h1] at ho; have := hw.lt l b (by omega) ho; omega
    · rw [eo' l h1] at ho; rw [eo' l' h2] at ho'; exact hw.disj l l' b (by omega) (by omega) ho ho'
  · rw [enid] at hl
    by_cases h1 : l = g.nid
    · subst h1; rw [eo] at ho; exact ho.2
    · rw [eo' l h1] at ho; have := hw.lt l b (by omega) ho; omega
  · have := Rel.ptr (w := w') g' g.nid 0 (by omega) ebuf
    rw [epl, hn] at this
    exact this
  · refine ⟨hle, h3.os, h3.tape, h3.output, hsz, fun b hlt' _ => hb b hlt', fun l b hl ho hlt' => ?_, fun b hlt' _ => eG b hlt'⟩
    rw [enid] at hl
    by_cases h1 : l = g.nid
    · subst h1; rw [eo] at ho; omega
    · rw [eo' l h1] at ho; exact ⟨by omega, ho⟩
end
theorem xd_mono (d : Dk) : ∀ w p (S T : Nat → Prop), (DRep w S p d ∧ Ok d) → (∀ b, S b → T b) → DRep w T p d ∧ Ok d := fun _ _ _ _ h hs => ⟨h.1.more hs, h.2⟩
theorem xd_keep (d : Dk) : ∀ (w w' : World) p (S : Nat → Prop), (DRep w S p d ∧ Ok d) → (∀ b, S b ∧ b < w.heap.size → w'.heap[b]? = w.heap[b]?) → DRep w' (fun b => S b ∧ b < w.heap.size) p d ∧ Ok d :=
  fun _ _ _ _ h hs => ⟨(drep_lt h.1).keep fun b hb _ => hs b hb, h.2⟩
theorem lrel_cons {w : World} {g : Gh} {u : AV} {us : List AV} {cargs : Array Value} (h : LRel w g (u :: us) cargs) : ∃ (cv : Value) (cs : List Value), cargs = (cv :: cs).toArray ∧ Rel w g u cv ∧ LRel w g us cs.toArray := by
  obtain ⟨h1, h2⟩ := h
  obtain ⟨l⟩ := cargs
  cases l with
  | nil => simp at h1
  | cons cv cs => exact ⟨cv, cs, rfl, h2 0 u cv rfl rfl, by simpa using h1, fun j u v hu hv => h2 (j + 1) u v (by simpa using hu) (by simpa using hv)⟩
theorem lrelc {w : World} {g : Gh} {u : AV} {us : List AV} {cs : List Value} (h : LRel w g (u :: us) cs.toArray) : ∃ (cv : Value) (cs' : List Value), cs = cv :: cs' ∧ Rel w g u cv ∧ LRel w g us cs'.toArray := by
  obtain ⟨cv, cs', e, h1, h2⟩ := lrel_cons h
  exact ⟨cv, cs', by simpa using e, h1, h2⟩
theorem lrel_nil {w : World} {g : Gh} {cargs : Array Value} (h : LRel w g [] cargs) : cargs = #[] := by
  obtain ⟨h1, _⟩ := h
  exact Array.eq_empty_of_size_eq_zero h1
theorem rel_ptr {w : World} {g : Gh} {l off : Nat} {cv : Value} (h : Rel w g (.ptr l off) cv) : cv = .pointer (some ⟨g.pl l, off, none⟩) := by cases h; rfl
theorem rel_it {w : World} {g : Gh} {k : IntKind} {n : Int} {cv : Value} (h : Rel w g (.it k n) cv) : cv = .int k n := by cases h; rfl
theorem rel_st {w : World} {g : Gh} {l : List UInt8} {cv : Value} (h : Rel w g (.st l) cv) : cv = .string ⟨l.toArray⟩ := by cases h; rfl
theorem rel_tup2 {w : World} {g : Gh} {a b : AV} {x y : Value} (h : Rel w g a x) (h' : Rel w g b y) : Rel w g (.tup [a, b]) (.tuple #[x, y]) := by
  refine .tup _ _ _ rfl fun j u v hu hv => ?_
  match j with
  | 0 => cases hu; cases hv; exact h
  | 1 => cases hu; cases hv; exact h'
  | j + 2 => simp at hu
abbrev ints (m : Mode) (ks : List Int) : AV := .sl m (ks.map (AV.it .i64))
theorem flat_ints (ks : List Int) : flat (ks.map (AV.it .i64)) = ks.map (AV.it .i64) := by
  induction ks with
  | nil => rfl
  | cons k ks ih => rw [List.map_cons, flat, List.flatMap_cons]; exact congrArg _ ih
section
variable {d : Dk}
theorem d_append (d : Dk) (f : Int) (s : List UInt8) (hs : s.length ≤ 9223372036854775807) :
    AC Tryz.prog 158 [.ptr 0 0, .it .i64 f, .st s] [XD d] (.it .i64 (appendD d f s).1) [XD (appendD d f s).2] := by
  refine AC.ofFr (by kernel_rfl) (xd_mono d) (xd_keep _) fun w g S cargs hargs hbuf hn hG hSp hS hX => ?_
  obtain ⟨v0, c0, rfl, h0, hargs⟩ := lrel_cons hargs
  obtain ⟨v1, c1, rfl, h1, hargs⟩ := lrelc hargs
  obtain ⟨v2, c2, rfl, h2, hargs⟩ := lrelc hargs
  obtain rfl : c2 = [] := by simpa using lrel_nil hargs
  obtain rfl := rel_ptr h0; obtain rfl := rel_it h1; obtain rfl := rel_st h2
  refine (append_any hX.1 hX.2 hS f ⟨s.toArray⟩ (by simpa [ByteArray.size] using hs)).mono fun r w' ⟨e, hD, hF⟩ => ?_
  exact ⟨_, e, fun g' => .it _ _ _, ⟨hD, append_ok hX.2 _ _⟩, hF⟩
theorem d_flush (d : Dk) (f : Int) : AC Tryz.prog 100 [.ptr 0 0, .it .i64 f] [XD d] (.it .i64 (flushD d f).1) [XD (flushD d f).2] := by
  refine AC.ofFr (by kernel_rfl) (xd_mono d) (xd_keep _) fun w g S cargs hargs hbuf hn hG hSp hS hX => ?_
  obtain ⟨v0, c0, rfl, h0, hargs⟩ := lrel_cons hargs
  obtain ⟨v1, c1, rfl, h1, hargs⟩ := lrelc hargs
  obtain rfl : c1 = [] := by simpa using lrel_nil hargs
  obtain rfl := rel_ptr h0; obtain rfl := rel_it h1
  exact (flush_any hX.1 hX.2 hS f).mono fun r w' ⟨e, hD, hF⟩ => ⟨_, e, fun g' => .it _ _ _, ⟨hD, flush_ok hX.2 _⟩, hF⟩
theorem d_cut (d : Dk) (f n : Int) : AC Tryz.prog 98 [.ptr 0 0, .it .i64 f, .it .i64 n] [XD d] (.it .i64 (cutD d f n).1) [XD (cutD d f n).2] := by
  refine AC.ofFr (by kernel_rfl) (xd_mono d) (xd_keep _) fun w g S cargs hargs hbuf hn hG hSp hS hX => ?_
  obtain ⟨v0, c0, rfl, h0, hargs⟩ := lrel_cons hargs
  obtain ⟨v1, c1, rfl, h1, hargs⟩ := lrelc hargs
  obtain ⟨v2, c2, rfl, h2, hargs⟩ := lrelc hargs
  obtain rfl : c2 = [] := by simpa using lrel_nil hargs
  obtain rfl := rel_ptr h0; obtain rfl := rel_it h1; obtain rfl := rel_it h2
  exact (cut_any hX.1 hX.2 hS f n).mono fun r w' ⟨e, hD, hF⟩ => ⟨_, e, fun g' => .it _ _ _, ⟨hD, cut_ok hX.2 _ _⟩, hF⟩
theorem d_read (d : Dk) (f : Int) : AC Tryz.prog 96 [.ptr 0 0, .it .i64 f] [XD d] (.tup [.st (peek d f).1, .it .i64 (peek d f).2]) [XD d] := by
  refine AC.ofFr (by kernel_rfl) (xd_mono d) (xd_keep _) fun w g S cargs hargs hbuf _ hG hSp hS hX => ?_
  obtain ⟨v0, c0, rfl, h0, hargs⟩ := lrel_cons hargs
  obtain ⟨v1, c1, rfl, h1, hargs⟩ := lrelc hargs
  obtain rfl : c1 = [] := by simpa using lrel_nil hargs
  obtain rfl := rel_ptr h0; obtain rfl := rel_it h1
  exact (read_any hX.1 f).mono fun r w' ⟨e, e'⟩ => by subst e'; exact ⟨_, e, fun g' => rel_tup2 (.st _ _) (.it _ _ _), hX, Fr.refl _ _⟩
theorem d_down (d : Dk) : AC Tryz.prog 30 [.ptr 0 0] [XD d] (.bo d.down) [XD d] := by
  refine AC.ofFr (by kernel_rfl) (xd_mono d) (xd_keep _) fun w g S cargs hargs hbuf _ hG hSp hS hX => ?_
  obtain ⟨v0, c0, rfl, h0, hargs⟩ := lrel_cons hargs
  obtain rfl : c0 = [] := by simpa using lrel_nil hargs
  obtain rfl := rel_ptr h0
  exact (down_any hX.1).mono fun r w' ⟨e, e'⟩ => by subst e'; exact ⟨_, e, fun g' => .bo _ _, hX, Fr.refl _ _⟩
theorem d_size (d : Dk) (f : Int) : AC Tryz.prog 148 [.ptr 0 0, .it .i64 f] [XD d] (.it .i64 (size d f : Int)) [XD d] := by
  refine AC.ofFr (by kernel_rfl) (xd_mono d) (xd_keep _) fun w g S cargs hargs hbuf _ hG hSp hS hX => ?_
  obtain ⟨v0, c0, rfl, h0, hargs⟩ := lrel_cons hargs
  obtain ⟨v1, c1, rfl, h1, hargs⟩ := lrelc hargs
  obtain rfl : c1 = [] := by simpa using lrel_nil hargs
  obtain rfl := rel_ptr h0; obtain rfl := rel_it h1
  exact (size_any hX.1 f).mono fun r w' ⟨e, e'⟩ => by subst e'; exact ⟨_, e, fun g' => .it _ _ _, hX, Fr.refl _ _⟩
theorem d_new : AC Tryz.prog 8 [] [] (.ptr 0 0) [XD dk0] := by
  refine AC.newFr (S0 := []) (by kernel_rfl) (xd_keep _) (fun w p S h => ⟨h.1.at', h.1.lt⟩) fun w g cargs hw hargs => ?_
  obtain rfl := lrel_nil hargs
  exact (new_any w _ (fun b hb => hb)).mono fun r w' ⟨p, e, hD, hF, _⟩ => ⟨p, e, ⟨hD, dk0_ok⟩, hF⟩
end
end Go.Proofs.YtleljbiejeofgaaGreatDoor.Pe
end
section
namespace Go.Proofs.YtleljbiejeofgaaGreatDoor.Pe
open Go Go.RowKit
variable [Tab]
def Closed (md : Region.Mode) (ops : Array Oper) (listed : Array Bool) : Prop :=
 ∀ (j : Nat) oj, ops[j]? = some oj → listed.getD j true = true → ∀ e ∈ oj.after, Region.binds md e = true → listed.getD e.on true = true
theorem dep_un {md : Region.Mode} {ops : Array Oper} {k : Nat} {listed : Array Bool} (hc : Closed md ops listed) (hk : listed.getD k true = false) : ∀ n j, dep md ops k n j = true → listed.getD j true = false := by
 intro n
 induction n with
 | zero => intro j hj; unfold dep at hj; rw [beq_iff_eq.1 hj]; exact hk
 | succ n ih =>
  intro j hj
  unfold dep at hj
  rw [Bool.or_eq_true] at hj
  rcases hj with hj | hj
  ·rw [beq_iff_eq.1 hj]; exact hk
  ·cases ho : ops[j]? with
   | none => rw [ho] at hj; cases hj
   | some oj =>
    rw [ho] at hj
    simp only at hj
    rw [Array.any_eq_true'] at hj
    obtain ⟨e, he, h2⟩ := hj
    simp only [Bool.and_eq_true] at h2
    have h3 := ih e.on h2.2
    cases hl : listed.getD j true with
    | false => rfl
    | true =>
     have := hc j oj ho hl e he h2.1
     rw [h3] at this
     cases this
theorem closed_set {md : Region.Mode} {ops : Array Oper} {listed : Array Bool} {k : Nat} (hc : Closed md ops listed) (hk : k ∈ Region.ready md ops listed) : Closed md ops (listed.setIfInBounds k true) := by
 intro j oj hj hl e he hb
 obtain ⟨_, ok, hok, hall⟩ := mem_ready.1 hk
 have hmono : ∀ i, listed.getD i true = true → (listed.setIfInBounds k true).getD i true = true := fun i hi => by
  by_cases hik : k = i
  ·subst hik
   rw [Array.getD_eq_getD_getElem?, Array.getElem?_setIfInBounds]
   simp only [if_true]
   split <;> rfl
  ·rw [getD_set_ne true hik]; exact hi
 refine hmono _ ?_
 by_cases hjk : k = j
 ·subst hjk
  rw [hok] at hj
  cases hj
  have h1 := hall e he hb
  rcases Nat.lt_or_ge e.on listed.size with h' | h'
  ·simp [h'] at h1 ⊢; exact h1
  ·simp [Array.getElem?_eq_none h'] at h1
 ·rw [getD_set_ne true hjk] at hl
  exact hc j oj hj hl e he hb
def lexC3 (cls : Op → Cls) (md : Region.Mode) (ops : Array Oper) : List Nat → Array Bool → Bool
 | [], listed => (Region.ready md ops listed).isEmpty
 | k :: r, listed => (Region.ready md ops listed).contains k && freeC2 cls md ops listed k && lexC3 cls md ops r (listed.setIfInBounds k true)
def lexOk3 (cls : Op → Cls) (ops : Array Oper) (ord : List Nat) : Bool := ord.length == ops.size && lexC3 cls .any ops ord (Array.replicate ops.size false)
section
variable {P : Program} {N N0 : Nat} {w0 : World} {g0 : Gh} {pf rf : List FuncId}
theorem wpX_lex3 {cls : Op → Cls} {md : Region.Mode} {ops : Array Oper} {Q : Env → Store → Prop} : ∀ (l : List Nat) (listed : Array Bool) (e : Env) (S : Store), Closed md ops listed →
  lexC3 cls md ops l listed = true → wpL P cls ops Q (l.filterMap fun i => ops[i]?) e S → wpX P cls md ops Q l.length listed e S
 | [], _, _, _, _, hB, h => ⟨by simpa [lexC3] using hB, h⟩
 | k :: l, listed, e, S, hc, hB, h => by
  simp only [lexC3, Bool.and_eq_true] at hB
  obtain ⟨⟨hr, hf⟩, hB'⟩ := hB
  have hr : k ∈ Region.ready md ops listed := by simpa using hr
  obtain ⟨hun, o, h0, _⟩ := mem_ready.1 hr
  rw [List.filterMap_cons, h0] at h
  have hst : xOp P cls ops k (wpL P cls ops Q (l.filterMap fun i => ops[i]?)) e S := by unfold xOp; simp only [h0]; exact h
  obtain ⟨v, S', hy, hK⟩ := yieldsX_of_xOp h0 hst
  exact wpX_first2 h0 l.length listed e S S' (dep_un hc hun) (freeC2_spec h0 hf) hr hy (wpX_lex3 l _ _ _ (closed_set hc hr) hB' hK)
theorem region_draws3 {ro : Option Nat} {cls : Op → Cls} {ops : Array Oper} {ord : List Nat} {id : Nat} {Q : Env → Store → Prop} {Q' : Exit → Act → World → Prop} {e : Env} {S : Store} {a : Act} {w : World} (hm : P.follows .mixedOrders = true) (hB : lexOk3 cls ops ord = true) (hds : dstsOk N ops = true)
  (hQ : ∀ e S a w, Conc N w0 g0 e S a w → Q e S → Q' .normal a w) (hc : Conc N w0 g0 e S a w) (h : wpL P cls ops Q (ord.filterMap fun i => ops[i]?) e S) : (Code.region id ops true).wpIn (wR ro) 0 P Q' a w := by
 refine wpIn_region_any hm (wpAny_of_x ro (cls := cls) hds hQ _ _ e S a _ (hc.draw _) ?_)
 simp only [lexOk3, Bool.and_eq_true, beq_iff_eq] at hB
 have h0 : Closed .any ops (Array.replicate ops.size false) := fun j oj hj hl => by
  have hlt : j < ops.size := (Array.getElem?_eq_some_iff.1 hj).1
  simp [hlt] at hl
 have := wpX_lex3 (md := .any) ord (Array.replicate ops.size false) e S h0 hB.2 h
 rw [hB.1] at this
 exact this
end
def codeOk3 (P : Program) (pf rf : List FuncId) (N : Nat) (ord : List (Nat × List Nat)) : Code → Bool
 | .region id ops draw => dstsOk N ops && (match ord.lookup id with
  | none => !draw || lexOk2 (clsOf P pf rf) ops
  | some l => draw && lexOk3 (clsOf P pf rf) ops l)
 | .seq a b => codeOk3 P pf rf N ord a && codeOk3 P pf rf N ord b
 | .cond _ a b => codeOk3 P pf rf N ord a && codeOk3 P pf rf N ord b
 | .block _ b => codeOk3 P pf rf N ord b
 | .loop b => codeOk3 P pf rf N ord b
 | _ => true
def eraseC3 (ord : List (Nat × List Nat)) : Code → CC
 | .skip => .skip
 | .label _ => .skip
 | .region id ops _ => (match ord.lookup id with
  | none => .reg (ops.toList.map (eraseO ops))
  | some l => .reg ((l.filterMap fun i => ops[i]?).map (eraseO ops)))
 | .seq a b => .seq (eraseC3 ord a) (eraseC3 ord b)
 | .cond c a b => .cond c (eraseC3 ord a) (eraseC3 ord b)
 | .block id b => .block id (eraseC3 ord b)
 | .loop b => .loop (eraseC3 ord b)
 | .exit id => .exit id
 | .ret => .ret
 | _ => .bad
section
variable {P : Program} {N N0 : Nat} {w0 : World} {g0 : Gh} {pf rf : List FuncId} {ord : List (Nat × List Nat)}
theorem AW_ok3 {ro : Option Nat} (hm : P.follows .mixedOrders = true) (hN0 : g0.nid = N0) : ∀ (c : Code) (Q : AX → Env → Store → Prop) (e : Env) (S : Store) (a : Act) (w : World), codeOk3 P pf rf N ord c = true → Conc N w0 g0 e S a w → AW P pf rf N0 (eraseC3 ord c) Q e S → c.wpIn (wR ro) 0 P (toQ N w0 g0 Q) a w := by
 intro c
 induction c with
 | skip => intro Q e S a w _ hc h; exact wpIn_skip ⟨e, S, hc, h⟩
 | label l => intro Q e S a w _ hc h; exact wpIn_label ⟨e, S, hc, h⟩
 | ret => intro Q e S a w _ hc h; exact wpIn_ret ⟨e, S, hc, h⟩
 | exit id => intro Q e S a w _ hc h; exact wpIn_exit ⟨e, S, hc, h⟩
 | region id ops draw =>
  intro Q e S a w hok hc h
  have hQ : ∀ e S a w, Conc N w0 g0 e S a w → Q .norm e S → toQ N w0 g0 Q .normal a w := fun e S a w hc hq => ⟨e, S, hc, hq⟩
  simp only [codeOk3, Bool.and_eq_true] at hok
  simp only [eraseC3] at h
  cases ho : ord.lookup id with
  | none =>
   rw [ho] at hok h
   simp only at hok h
   rw [AW] at h
   have hL := wpL_of_ARg ops.toList e S h
   cases draw with
   | false => exact region_list hok.1 hQ hc hL ro
   | true => exact region_draws2 hm (by simpa using hok.2) hok.1 hQ hc hL
  | some l =>
   rw [ho] at hok h
   simp only at hok h
   rw [AW] at h
   have hL := wpL_of_ARg _ e S h
   cases draw with
   | false => simp at hok
   | true => exact region_draws3 hm (by simpa using hok.2) hok.1 hQ hc hL
 | seq x y ihx ihy =>
  intro Q e S a w hok hc h
  simp only [codeOk3, Bool.and_eq_true] at hok
  simp only [eraseC3, AW] at h
  refine wpIn_seq (Go.wpIn_mono (ihx _ e S a w hok.1 hc h) ?_)
  intro ex a' w' hq
  cases ex with
  | normal => obtain ⟨e', S', hc', h'⟩ := hq; exact ihy Q e' S' a' w' hok.2 hc' h'
  | exit id => exact hq
  | ret => exact hq
  | _ => exact hq.elim
 | cond c x y ihx ihy =>
  intro Q e S a w hok hc h
  simp only [codeOk3, Bool.and_eq_true] at hok
  simp only [eraseC3, AW] at h
  split at h
  ·rename_i b hb
   have hcb : a.eval c = .bool b := by
    obtain ⟨_, _, g, _, h4, _⟩ := hc
    have := ev_ok h4 c
    rw [hb] at this
    cases hv : a.eval c <;> rw [hv] at this <;> cases this
    rfl
   refine wpIn_cond_split hcb (fun ht => ihx Q e S a w hok.1 hc (h.1 ht)) (fun hf => ihy Q e S a w hok.2 hc (h.2 hf))
  ·exact h.elim
 | block id c ih =>
  intro Q e S a w hok hc h
  simp only [eraseC3, AW] at h
  refine wpIn_block (Go.wpIn_mono (ih _ e S a w hok hc h) ?_)
  intro ex a' w' hq
  cases ex with
  | normal => exact hq
  | exit i =>
   obtain ⟨e', S', hc', h'⟩ := hq
   simp only [blockQ] at h'
   simp only [Exit.inBlock]
   by_cases hi : i = id
   ·rw [if_pos hi] at h' ⊢; exact ⟨e', S', hc', h'⟩
   ·rw [if_neg hi] at h' ⊢; exact ⟨e', S', hc', h'⟩
  | ret => exact hq
  | _ => exact hq.elim
 | loop c ih =>
  intro Q e S a w hok hc h
  simp only [eraseC3, AW] at h
  obtain ⟨I, ⟨n, e', S', hwk, hI⟩, hround⟩ := h
  refine wpIn_loop_ghost (fun n a w => ∃ e S, Conc N w0 g0 e S a w ∧ I n e S) n ⟨e', S', hwk N w0 g0 a w hN0 hc, hI⟩ ?_
  rintro n a w ⟨e, S, hc, hI⟩
  refine Go.wpIn_mono (ih _ e S a w hok hc (hround n e S hI)) ?_
  intro ex a' w' hq
  cases ex with
  | normal =>
   obtain ⟨e1, S1, hc1, n', e2, S2, hlt, hwk', hI'⟩ := hq
   exact ⟨n', hlt, e2, S2, hwk' N w0 g0 a' w' hN0 hc1, hI'⟩
  | exit i => exact hq
  | ret => exact hq
  | _ => exact hq.elim
 | _ => intro Q e S a w _ _ h; exact h.elim
end
section
variable {P : Program}
end
end Go.Proofs.YtleljbiejeofgaaGreatDoor.Pe
namespace Go.Proofs.YtleljbiejeofgaaGreatDoor.Pe
open Go Go.RowKit
variable [Tab]
def aLitW (P : Program) (t : TypeId) (S : Store) (n : Nat) (qs : List (Nat × AV)) : Option (AV × SObj) :=
 match sleOf P t with
 | some (el, sz, _) => if qs.map (·.1) = List.range' 0 n ∧ (qs.all fun q => q.2.solid && q.2.cells.length == sz) = true ∧ n * sz ≤ 16777216 ∧ 0 < sz ∧ (zerOf P el).isSome = true then some (.wr S.length n none, .row (flat (qs.map (·.2))) el sz) else none
 | none => none
theorem does_litW {P : Program} {o : Oper} {e : Env} {S : Store} {v : AV} {z : SObj} {t : TypeId} {n : Nat} {parts : Array (Nat × Operand)} (ho : o.op = .buildSlice t n parts)
  (h : aLitW P t S n (parts.toList.map fun p => (p.1, ev e p.2)) = some (v, z)) : Does P o e S v (S ++ [z]) :=
 does_value fun ρ w g hw hr => by
  unfold aLitW at h
  split at h
  ·rename_i el sz ag hs
   split at h
   ·rename_i hcond
    obtain ⟨hq, hall, hn, hsz, hzs⟩ := hcond
    cases h
    obtain ⟨hu, hse⟩ := sleOf_spec hs
    obtain ⟨z, hzz⟩ := Option.isSome_iff_exists.1 hzs
    obtain ⟨iz, zv, hz1, hz2, hz3, _⟩ := zerOf_spec hzz
    have hqs : ∀ q ∈ parts.toList.map (fun p => (p.1, ev e p.2)), q.2.solid = true ∧ q.2.cells.length = sz := fun q hq => by
     have := (List.all_eq_true.1 hall) q hq
     simpa using this
    generalize hzero : (if n * sz = 0 then (#[] : Array Value) else zv.cells) = zero at *
    have hzc : ∀ k : Nat, Value.oneCell' (zero[k]!) = true := by
     intro k
     rw [getElem!_def]
     split
     ·rename_i x hx
      rw [← hzero] at hx
      split at hx
      ·simp at hx
      ·exact hz3 x (List.mem_iff_getElem?.2 ⟨k, by simpa using hx⟩)
     ·rfl
    have hc0 : CellsRel w g (List.replicate (n * sz) .junk) ((Array.range (n * sz)).map (zero[· % zero.size]!)) := by
     refine ⟨by simp, fun v hv => ?_, fun j u v hu hv => ?_⟩
     ·simp only [Array.toList_map, List.mem_map] at hv
      obtain ⟨k, _, rfl⟩ := hv
      exact hzc _
     ·rw [List.getElem?_replicate] at hu
      split at hu
      ·cases hu; exact .junk _ _
      ·cases hu
    have hlen : (parts.toList.map (fun p => (p.1, ev e p.2))).length = n := by
     have := congrArg List.length hq
     simpa using this
    have hfill := aFill_seq ((List.range n).map fun k => (k * sz, sz)) sz (parts.toList.map fun p => (p.1, ev e p.2)) 0 [] (by simp) (by rw [hlen]; exact hq) hqs (fun i _ hi => by
     rw [hlen] at hi
     rw [List.getElem?_map, List.getElem?_range (by omega)]
     rfl)
    rw [hlen] at hfill
    simp only [List.nil_append] at hfill
    obtain ⟨arr, h1, h2⟩ := aFill_ok (w := w) (g := g) ((List.range n).map fun k => (k * sz, sz)) (fun k => some (k * sz, sz)) (fun i p hp => by
     rw [List.getElem?_map] at hp
     obtain ⟨a, ha, rfl⟩ := Option.map_eq_some_iff.1 hp
     obtain ⟨hlt, he⟩ := List.getElem?_eq_some_iff.1 ha
     simp at he
     rw [he]) parts.toList e ρ _ _ _ hc0 (fun p hp => hr p.2 (by rw [ho]; simp only [Op.operands]; exact List.mem_map.2 ⟨p, hp, rfl⟩)) hfill
    have hfl : (flat ((parts.toList.map fun p => (p.1, ev e p.2)).map (·.2))).length = n * sz := by
     rw [flat_length (sz := sz) fun x hx => by
      obtain ⟨q, hq, rfl⟩ := List.mem_map.1 hx
      exact (hqs q hq).2, List.length_map, hlen]
    have hmx : n ≤ maxLen := by
     have : n ≤ n * sz := Nat.le_mul_of_pos_right _ hsz
     unfold maxLen; omega
    have has : arr.size = n * sz := by rw [h2.1, hfl]
    obtain ⟨g', h5, h6, h7⟩ := hw.new_row (n := n) (cs := flat ((parts.toList.map fun p => (p.1, ev e p.2)).map (·.2))) (cur := arr) (e := el) (sz := sz) (cap := n) (fr := (0, 0)) hsz hfl (Nat.le_refl _) hmx has (Nat.le_refl _) arr.toList (by simpa using h2) (by rw [List.take_of_length_le (by simp)])
    refine ⟨.slice (some ⟨w.heap.size, 0, none⟩) n n, _, g', ?_, h5, h7, h6⟩
    have h1' : Instr.fill (fun k => some (k * sz, sz)) ((Array.range (n * sz)).map (zero[· % zero.size]!)) ((parts.map fun (i, x) => (i, ρ x)).toList) = some arr := by
     rw [← h1]
     simp
    unfold execOp
    simp only [ho, Instr.buildSlice, Sem.run_bind, run_underlying hu, Result.andThen_ok, run_sizeOf hse]
    have hnn : ¬ n * sz > 2 ^ 24 := by omega
    simp only [if_neg hnn]
    by_cases h0 : n * sz = 0
    ·rw [if_pos h0] at hzero
     subst hzero
     simp only [if_pos h0, Sem.run_bind, Sem.run_pure, Result.andThen_ok, h1', newRow, newObj, Sem.run]
     rfl
    ·rw [if_neg h0] at hzero
     subst hzero
     have hzv : (zeroValue el).run P w = .ok zv w := by simp [zeroValue, typeInfo, hz1, hz2]
     simp only [if_neg h0, Sem.run_bind, hzv, Sem.run_pure, Result.andThen_ok, h1', newRow, newObj, Sem.run]
     rfl
   ·cases h
  ·cases h
def keeps (Kp : List Nat) (S S' : Store) : Prop := ∀ k ∈ Kp, S'[k]? = S[k]?
inductive K4 where
 | rp | wr | al | ot
def kdO (lp wp : List Nat) (d : Option Nat) (op : Op) : K4 := match d with
 | some d => if lp.contains d then .rp else if wp.contains d then (match op with
   | .call c => (match c.callee with
    | .builtin _ => .al
    | _ => .wr)
   | .buildSlice .. => .al
   | _ => .wr) else match op with
  | .alloc _ => .al
  | _ => .ot
 | none => .ot
inductive K5 where
 | rp | wr | ap | ot
def kdA (lp wp : List Nat) (d : Option Nat) (op : Op) : K5 := match kdO lp wp d op with
 | .rp => .rp
 | .wr => .wr
 | .al => (match op with
  | .call _ => .ap
  | .buildSlice .. => .ap
  | _ => .ot)
 | .ot => .ot
def XStep4 (P : Program) (Kp lp wp : List Nat) (cls : Op → Cls) (o : Oper) (e : Env) (S : Store) (v : AV) (S' : Store) : Prop :=
 match kdO lp wp o.dst o.op with
 | .rp => S' = S ∧ ∃ k ∈ Kp, ∀ S2 : Store, S2[k]? = S[k]? → Does P o e S2 v S2
 | .wr => S'.length = S.length ∧ keeps Kp S S' ∧ ∀ R, Does P o e (S ++ R) v (S' ++ R)
 | .al => (∃ z, S' = S ++ [z] ∧ ∀ S2 : Store, S2.length = S.length → Does P o e S2 v (S2 ++ [z])) ∧ keeps Kp S S'
 | .ot => XStep P (cls o.op) o e S v S' ∧ keeps Kp S S'
theorem XStep4.does {P : Program} {Kp lp wp : List Nat} {cls : Op → Cls} {o : Oper} {e : Env} {S S' : Store} {v : AV} (h : XStep4 P Kp lp wp cls o e S v S') : Does P o e S v S' := by
 unfold XStep4 at h
 split at h
 ·obtain ⟨rfl, k, _, h⟩ := h; exact h _ rfl
 ·have := h.2.2 []; simpa using this
 ·obtain ⟨⟨z, rfl, h⟩, _⟩ := h; exact h _ rfl
 ·exact h.1.does
theorem XStep4.keeps {P : Program} {Kp lp wp : List Nat} {cls : Op → Cls} {o : Oper} {e : Env} {S S' : Store} {v : AV} (h : XStep4 P Kp lp wp cls o e S v S') : keeps Kp S S' := by
 unfold XStep4 at h
 split at h
 ·obtain ⟨rfl, _⟩ := h; exact fun _ _ => rfl
 ·exact h.2.1
 ·exact h.2
 ·exact h.2
theorem XStep4.put {P : Program} {Kp lp wp : List Nat} {cls : Op → Cls} {o : Oper} {e : Env} {S S' : Store} {v : AV} {ops : Array Oper} {dst : Option Nat} {u : AV} (h : ∀ d, dst = some d → d ∉ o.looksAt ops) : XStep4 P Kp lp wp cls o (Pe.put e dst u) S v S' ↔ XStep4 P Kp lp wp cls o e S v S' := by
 unfold XStep4
 split
 ·exact and_congr Iff.rfl (exists_congr fun k => and_congr Iff.rfl (forall_congr' fun S2 => imp_congr Iff.rfl (Does.put h)))
 ·exact and_congr Iff.rfl (and_congr Iff.rfl (forall_congr' fun R => Does.put h))
 ·exact and_congr (exists_congr fun z => and_congr Iff.rfl (forall_congr' fun S2 => imp_congr Iff.rfl (Does.put h))) Iff.rfl
 ·exact and_congr (XStep.put h) Iff.rfl
def indep4 (lp wp : List Nat) (cls : Op → Cls) (ops : Array Oper) (x y : Oper) : Bool :=
 x.apart ops y && (match kdO lp wp x.dst x.op, kdO lp wp y.dst y.op with
  | .rp, _ => true
  | _, .rp => true
  | .wr, .al => true
  | .wr, .ot => (match cls y.op with | .free => true | _ => false)
  | .al, .ot => (match cls y.op with | .free => true | _ => false)
  | .ot, .wr => (match cls x.op with | .free => true | _ => false)
  | .ot, .al => (match cls x.op with | .free => true | .read => true | _ => false)
  | .ot, .ot => (match cls x.op, cls y.op with
   | .free, _ => true
   | _, .free => true
   | .read, .read => true
   | .read, .fresh => true
   | _, _ => false)
  | _, _ => false)
theorem XStep4.swap {P : Program} {Kp lp wp : List Nat} {cls : Op → Cls} {ops : Array Oper} {oi oj : Oper} {e : Env} {S Si Sj : Store} {v u : AV} (hap : indep4 lp wp cls ops oi oj = true) (hi : XStep4 P Kp lp wp cls oi e S v Si) (hj : XStep4 P Kp lp wp cls oj e Si u Sj) :
  ∃ Sm, XStep4 P Kp lp wp cls oj e S u Sm ∧ XStep4 P Kp lp wp cls oi e Sm v Sj := by
 have hki := hi.keeps
 have hkj := hj.keeps
 simp only [indep4, Bool.and_eq_true] at hap
 have hcls := hap.2
 unfold XStep4 at hi hj ⊢
 cases hri : kdO lp wp oi.dst oi.op with
 | rp =>
  simp only [hri] at hi hj ⊢
  obtain ⟨rfl, k, hk, hi⟩ := hi
  exact ⟨Sj, hj, rfl, k, hk, fun S2 h2 => hi S2 (h2.trans (hkj k hk))⟩
 | wr =>
  cases hrj : kdO lp wp oj.dst oj.op with
  | rp =>
   simp only [hri, hrj] at hi hj ⊢
   obtain ⟨rfl, k, hk, hj⟩ := hj
   exact ⟨S, ⟨rfl, k, hk, fun S2 h2 => hj S2 (h2.trans (hki k hk).symm)⟩, hi⟩
  | wr => rw [hri, hrj] at hcls; cases hcls
  | al =>
   simp only [hri, hrj] at hi hj ⊢
   obtain ⟨hl, _, hi⟩ := hi
   obtain ⟨⟨z, rfl, hj⟩, _⟩ := hj
   have h1 : Pe.keeps Kp S (S ++ [z]) := fun k hk => by
    have h1 := hkj k hk
    rcases Nat.lt_trichotomy k S.length with hlt | heq | hgt
    ·rw [List.getElem?_append_left hlt]
    ·exfalso
     rw [heq, ← hl, List.getElem?_append_right (Nat.le_refl _), Nat.sub_self, List.getElem?_eq_none (Nat.le_refl _)] at h1
     cases h1
    ·rw [List.getElem?_eq_none (by simp; omega), List.getElem?_eq_none (by omega)]
   have hS : Pe.keeps Kp S (S ++ [z]) ∧ Pe.keeps Kp (S ++ [z]) (Si ++ [z]) := ⟨h1, fun k hk => by rw [hkj k hk, hki k hk, h1 k hk]⟩
   refine ⟨S ++ [z], ⟨⟨z, rfl, fun S2 h2 => hj S2 (by omega)⟩, hS.1⟩, by simp [hl], hS.2, fun R => ?_⟩
   rw [List.append_assoc, List.append_assoc]
   exact hi _
  | ot =>
   simp only [hri, hrj] at hi hj hcls ⊢
   obtain ⟨hl, hk, hi⟩ := hi
   cases hcj : cls oj.op with
   | free =>
    rw [hcj] at hj
    obtain ⟨⟨rfl, hj⟩, _⟩ := hj
    exact ⟨S, ⟨⟨rfl, hj⟩, fun _ _ => rfl⟩, hl, hk, hi⟩
   | read => rw [hcj] at hcls; cases hcls
   | fresh => rw [hcj] at hcls; cases hcls
   | write => rw [hcj] at hcls; cases hcls
 | al =>
  cases hrj : kdO lp wp oj.dst oj.op with
  | rp =>
   simp only [hri, hrj] at hi hj ⊢
   obtain ⟨rfl, k, hk, hj⟩ := hj
   exact ⟨S, ⟨rfl, k, hk, fun S2 h2 => hj S2 (h2.trans (hki k hk).symm)⟩, hi⟩
  | wr => rw [hri, hrj] at hcls; cases hcls
  | al => rw [hri, hrj] at hcls; cases hcls
  | ot =>
   simp only [hri, hrj] at hi hj hcls ⊢
   cases hcj : cls oj.op with
   | free =>
    rw [hcj] at hj
    obtain ⟨⟨rfl, hj⟩, _⟩ := hj
    exact ⟨S, ⟨⟨rfl, hj⟩, fun _ _ => rfl⟩, hi⟩
   | read => rw [hcj] at hcls; cases hcls
   | fresh => rw [hcj] at hcls; cases hcls
   | write => rw [hcj] at hcls; cases hcls
 | ot =>
  cases hrj : kdO lp wp oj.dst oj.op with
  | rp =>
   simp only [hri, hrj] at hi hj ⊢
   obtain ⟨rfl, k, hk, hj⟩ := hj
   exact ⟨S, ⟨rfl, k, hk, fun S2 h2 => hj S2 (h2.trans (hki k hk).symm)⟩, hi⟩
  | wr =>
   simp only [hri, hrj] at hi hj hcls ⊢
   cases hci : cls oi.op with
   | free =>
    rw [hci] at hi
    obtain ⟨⟨rfl, hi⟩, _⟩ := hi
    exact ⟨Sj, hj, ⟨rfl, hi⟩, fun _ _ => rfl⟩
   | read => rw [hci] at hcls; cases hcls
   | fresh => rw [hci] at hcls; cases hcls
   | write => rw [hci] at hcls; cases hcls
  | al =>
   simp only [hri, hrj] at hi hj hcls ⊢
   cases hci : cls oi.op with
   | free =>
    rw [hci] at hi
    obtain ⟨⟨rfl, hi⟩, _⟩ := hi
    exact ⟨Sj, hj, ⟨rfl, hi⟩, fun _ _ => rfl⟩
   | read =>
    rw [hci] at hi
    obtain ⟨⟨rfl, hi⟩, _⟩ := hi
    obtain ⟨⟨z, rfl, hj⟩, hk⟩ := hj
    exact ⟨_, ⟨⟨z, rfl, hj⟩, hk⟩, ⟨rfl, fun R' => by rw [List.append_assoc]; exact hi _⟩, fun _ _ => rfl⟩
   | fresh => rw [hci] at hcls; cases hcls
   | write => rw [hci] at hcls; cases hcls
  | ot =>
   simp only [hri, hrj] at hi hj hcls ⊢
   obtain ⟨hi, _⟩ := hi
   obtain ⟨hj, _⟩ := hj
   cases hci : cls oi.op with
   | free =>
    rw [hci] at hi
    obtain ⟨rfl, hi⟩ := hi
    exact ⟨Sj, ⟨hj, hkj⟩, ⟨rfl, hi⟩, fun _ _ => rfl⟩
   | read =>
    rw [hci] at hi
    obtain ⟨rfl, hi⟩ := hi
    cases hcj : cls oj.op with
    | free =>
     rw [hcj] at hj
     obtain ⟨rfl, hj⟩ := hj
     exact ⟨_, ⟨⟨rfl, hj⟩, hkj⟩, ⟨rfl, hi⟩, fun _ _ => rfl⟩
    | read =>
     rw [hcj] at hj
     obtain ⟨rfl, hj⟩ := hj
     exact ⟨_, ⟨⟨rfl, hj⟩, hkj⟩, ⟨rfl, hi⟩, fun _ _ => rfl⟩
    | fresh =>
     rw [hcj] at hj
     obtain ⟨⟨R, rfl⟩, hj⟩ := hj
     exact ⟨_, ⟨⟨⟨R, rfl⟩, hj⟩, hkj⟩, ⟨rfl, fun R' => by rw [List.append_assoc]; exact hi (R ++ R')⟩, fun _ _ => rfl⟩
    | write => rw [hci, hcj] at hcls; cases hcls
   | fresh =>
    rw [hci] at hi
    cases hcj : cls oj.op with
    | free =>
     rw [hcj] at hj
     obtain ⟨rfl, hj⟩ := hj
     exact ⟨_, ⟨⟨rfl, hj⟩, fun _ _ => rfl⟩, hi, hki⟩
    | read => rw [hci, hcj] at hcls; cases hcls
    | fresh => rw [hci, hcj] at hcls; cases hcls
    | write => rw [hci, hcj] at hcls; cases hcls
   | write =>
    rw [hci] at hi
    cases hcj : cls oj.op with
    | free =>
     rw [hcj] at hj
     obtain ⟨rfl, hj⟩ := hj
     exact ⟨_, ⟨⟨rfl, hj⟩, fun _ _ => rfl⟩, hi, hki⟩
    | read => rw [hci, hcj] at hcls; cases hcls
    | fresh => rw [hci, hcj] at hcls; cases hcls
    | write => rw [hci, hcj] at hcls; cases hcls
section
variable {P : Program} {N N0 : Nat} {w0 : World} {g0 : Gh} {pf rf : List FuncId} {Kp lp wp : List Nat}
def xOp4 (P : Program) (Kp lp wp : List Nat) (cls : Op → Cls) (ops : Array Oper) (i : Nat) (K : Env → Store → Prop) (e : Env) (S : Store) : Prop :=
 match ops[i]? with
 | none => K e S
 | some o => match aWant ops o e with
  | some true => ∃ v S', XStep4 P Kp lp wp cls o e S v S' ∧ K (Pe.put e o.dst v) S'
  | some false => K (Pe.put e o.dst (.tup [])) S
  | none => False
theorem xOp_mono4 {cls : Op → Cls} {ops : Array Oper} {i : Nat} {K K' : Env → Store → Prop} {e : Env} {S : Store} (h : ∀ e S, K e S → K' e S) (hh : xOp4 P Kp lp wp cls ops i K e S) : xOp4 P Kp lp wp cls ops i K' e S := by
 unfold xOp4 at *
 split
 ·rename_i ho; simp only [ho] at hh; exact h _ _ hh
 ·rename_i o ho
  simp only [ho] at hh
  split
  ·rename_i hw; simp only [hw] at hh; obtain ⟨v, S', h1, h2⟩ := hh; exact ⟨v, S', h1, h _ _ h2⟩
  ·rename_i hw; simp only [hw] at hh; exact h _ _ hh
  ·rename_i hw; simp only [hw] at hh
def wpX4 (P : Program) (Kp lp wp : List Nat) (cls : Op → Cls) (md : Region.Mode) (ops : Array Oper) (Q : Env → Store → Prop) : Nat → Array Bool → Env → Store → Prop
 | 0, listed, e, S => Region.ready md ops listed = [] ∧ Q e S
 | fuel + 1, listed, e, S =>
  (Region.ready md ops listed = [] → Q e S) ∧
  ∀ i ∈ Region.ready md ops listed, xOp4 P Kp lp wp cls ops i (wpX4 P Kp lp wp cls md ops Q fuel (listed.setIfInBounds i true)) e S
theorem wpAny_of_x4 {ro : Option Nat} {cls : Op → Cls} {md : Region.Mode} {ops : Array Oper} (hds : dstsOk N ops = true) {Q : Env → Store → Prop} {Q' : Exit → Act → World → Prop} (hQ : ∀ e S a w, Conc N w0 g0 e S a w → Q e S → Q' .normal a w) :
  ∀ (fuel : Nat) (listed : Array Bool) (e : Env) (S : Store) (a : Act) (w : World), Conc N w0 g0 e S a w → wpX4 P Kp lp wp cls md ops Q fuel listed e S → wpAnyIn (wR ro) 0 P md ops Q' fuel listed a w
 | 0, _, e, S, a, w, hc, h => ⟨h.1, hQ e S a w hc h.2⟩
 | fuel + 1, listed, e, S, a, w, hc, h => ⟨fun h0 => hQ e S a w hc (h.1 h0), fun i hi => by
  have hx := h.2 i hi
  unfold xOp4 at hx
  unfold wpOpIn
  split
  ·rename_i ho; simp only [ho] at hx; exact wpAny_of_x4 hds hQ fuel _ e S a w hc hx
  ·rename_i o ho
   simp only [ho] at hx
   have hd := dstsOk_spec hds ho
   have her : ∃ g, ERel w g e a := by obtain ⟨_, _, g, _, h4, _⟩ := hc; exact ⟨g, h4⟩
   obtain ⟨g, her⟩ := her
   split at hx
   ·rename_i hw
    rw [aWant_ok her hw]
    obtain ⟨v, S', h1, h2⟩ := hx
    simp only [if_true]
    exact hc.does hd h1.does (fun a' w' hc' => wpAny_of_x4 hds hQ fuel _ _ _ a' w' hc' h2) ro
   ·rename_i hw
    rw [aWant_ok her hw]
    simp only [Bool.false_eq_true, if_false]
    exact ⟨fun _ _ => trivial, wpAny_of_x4 hds hQ fuel _ _ _ _ w (hc.skip hd) hx⟩
   ·exact hx.elim⟩
def YieldsX4 (P : Program) (Kp lp wp : List Nat) (cls : Op → Cls) (ops : Array Oper) (o : Oper) (e : Env) (S : Store) (v : AV) (S' : Store) : Prop :=
 (aWant ops o e = some true ∧ XStep4 P Kp lp wp cls o e S v S') ∨ (aWant ops o e = some false ∧ v = .tup [] ∧ S' = S)
theorem YieldsX4.xOp4 {cls : Op → Cls} {ops : Array Oper} {i : Nat} {o : Oper} {e : Env} {S S' : Store} {v : AV} (hi : ops[i]? = some o) (hy : YieldsX4 P Kp lp wp cls ops o e S v S') {K : Env → Store → Prop} (h : K (Pe.put e o.dst v) S') : xOp4 P Kp lp wp cls ops i K e S := by
 unfold Pe.xOp4
 simp only [hi]
 rcases hy with ⟨hw, hx⟩ | ⟨hw, rfl, rfl⟩
 ·simp only [hw]; exact ⟨v, S', hx, h⟩
 ·simp only [hw]; exact h
theorem yieldsX_of_xOp4 {cls : Op → Cls} {ops : Array Oper} {i : Nat} {o : Oper} {e : Env} {S : Store} {K : Env → Store → Prop} (hi : ops[i]? = some o) (h : xOp4 P Kp lp wp cls ops i K e S) : ∃ v S', YieldsX4 P Kp lp wp cls ops o e S v S' ∧ K (Pe.put e o.dst v) S' := by
 unfold xOp4 at h
 simp only [hi] at h
 split at h
 ·rename_i hw; obtain ⟨v, S', h1, h2⟩ := h; exact ⟨v, S', .inl ⟨hw, h1⟩, h2⟩
 ·rename_i hw; exact ⟨.tup [], S, .inr ⟨hw, rfl, rfl⟩, h⟩
 ·exact h.elim
theorem xOp_swap4 {cls : Op → Cls} {ops : Array Oper} {j : Nat} {oi oj : Oper} {v : AV} {e : Env} {S Si : Store} (hj : ops[j]? = some oj) (hap : indep4 lp wp cls ops oi oj = true) {K : Env → Store → Prop}
  (hy : YieldsX4 P Kp lp wp cls ops oi e S v Si) (h : xOp4 P Kp lp wp cls ops j K (Pe.put e oi.dst v) Si) :
  xOp4 P Kp lp wp cls ops j (fun e' S' => ∃ Si', YieldsX4 P Kp lp wp cls ops oi e' S' v Si' ∧ K (Pe.put e' oi.dst v) Si') e S := by
 have hap0 := hap
 simp only [indep4, Bool.and_eq_true] at hap
 obtain ⟨h1, h2, h3⟩ := Oper.apart_spec hap.1
 have keep : ∀ u, aWant ops oi (Pe.put e oj.dst u) = aWant ops oi e := fun u => aWant_put h3
 unfold xOp4 at *
 simp only [hj] at *
 rw [aWant_put h1] at h
 split
 ·rename_i hw
  simp only [hw] at h
  obtain ⟨u, Sj, hu, hn⟩ := h
  rw [XStep4.put h1] at hu
  rcases hy with ⟨hwi, hx⟩ | ⟨hwi, rfl, rfl⟩
  ·obtain ⟨Sm, a1, a2⟩ := XStep4.swap hap0 hx hu
   exact ⟨u, Sm, a1, Sj, .inl ⟨by rw [keep]; exact hwi, (XStep4.put h3).2 a2⟩, by rw [← put_comm e v u h2]; exact hn⟩
  ·exact ⟨u, Sj, hu, Sj, .inr ⟨by rw [keep]; exact hwi, rfl, rfl⟩, by rw [← put_comm e _ u h2]; exact hn⟩
 ·rename_i hw
  simp only [hw] at h
  refine ⟨Si, ?_, by rw [← put_comm e v _ h2]; exact h⟩
  rcases hy with ⟨hwi, hx⟩ | ⟨hwi, rfl, rfl⟩
  ·exact .inl ⟨by rw [keep]; exact hwi, (XStep4.put h3).2 hx⟩
  ·exact .inr ⟨by rw [keep]; exact hwi, rfl, rfl⟩
 ·rename_i hw
  simp only [hw] at h
def wpL4 (P : Program) (Kp lp wp : List Nat) (cls : Op → Cls) (ops : Array Oper) (Q : Env → Store → Prop) : List Oper → Env → Store → Prop
 | [], e, S => Q e S
 | o :: rest, e, S => match aWant ops o e with
  | some true => ∃ v S', XStep4 P Kp lp wp cls o e S v S' ∧ wpL4 P Kp lp wp cls ops Q rest (Pe.put e o.dst v) S'
  | some false => wpL4 P Kp lp wp cls ops Q rest (Pe.put e o.dst (.tup [])) S
  | none => False
def freeC24 (lp wp : List Nat) (cls : Op → Cls) (md : Region.Mode) (ops : Array Oper) (listed : Array Bool) (k : Nat) : Bool :=
 match ops[k]? with
 | none => false
 | some ok => (List.range ops.size).all fun j =>
  match ops[j]? with
  | none => true
  | some oj => j == k || listed.getD j true || dep md ops k 8 j || indep4 lp wp cls ops ok oj
theorem freeC2_spec4 {cls : Op → Cls} {md : Region.Mode} {ops : Array Oper} {listed : Array Bool} {k : Nat} {ok : Oper} (hk : ops[k]? = some ok) (h : freeC24 lp wp cls md ops listed k = true) :
  ∀ (j : Nat) oj, ops[j]? = some oj → j ≠ k → listed.getD j true = false → (∀ n, dep md ops k n j = false) → indep4 lp wp cls ops ok oj = true := by
 intro j oj hj hne hun hno
 unfold freeC24 at h
 rw [hk] at h
 simp only at h
 have hlt : j < ops.size := (Array.getElem?_eq_some_iff.1 hj).1
 have h1 := (List.all_eq_true.1 h) j (List.mem_range.2 hlt)
 rw [hj] at h1
 simp only [Bool.or_eq_true, beq_iff_eq] at h1
 rcases h1 with ((h1 | h1) | h1) | h1
 ·exact absurd h1 hne
 ·rw [hun] at h1; cases h1
 ·rw [hno 8] at h1; cases h1
 ·exact h1
theorem wpX_first24 {cls : Op → Cls} {md : Region.Mode} {ops : Array Oper} {Q : Env → Store → Prop} {i : Nat} {oi : Oper} {v : AV} (hi : ops[i]? = some oi) :
  ∀ (fuel : Nat) (listed : Array Bool) (e : Env) (S Si : Store),
   (∀ n j, dep md ops i n j = true → listed.getD j true = false) →
   (∀ (j : Nat) oj, ops[j]? = some oj → j ≠ i → listed.getD j true = false → (∀ n, dep md ops i n j = false) → indep4 lp wp cls ops oi oj = true) →
   i ∈ Region.ready md ops listed → YieldsX4 P Kp lp wp cls ops oi e S v Si →
   wpX4 P Kp lp wp cls md ops Q fuel (listed.setIfInBounds i true) (Pe.put e oi.dst v) Si → wpX4 P Kp lp wp cls md ops Q (fuel + 1) listed e S := by
 intro fuel
 induction fuel with
 | zero =>
  intro listed e S Si _ _ hr hy H
  refine ⟨fun h => (by rw [h] at hr; cases hr), fun j hj => ?_⟩
  by_cases hji : j = i
  ·subst hji; exact hy.xOp4 hi H
  ·have := ready_mono hj hji
   rw [H.1] at this
   cases this
 | succ fuel ih =>
  intro listed e S Si hinv hfree hr hy H
  refine ⟨fun h => (by rw [h] at hr; cases hr), fun j hj => ?_⟩
  by_cases hji : j = i
  ·subst hji; exact hy.xOp4 hi H
  ·have h1 := H.2 j (ready_mono hj hji)
   have hnd := dep_ready hinv hj hji
   obtain ⟨hjun, oj, hoj, hall⟩ := mem_ready.1 hj
   have h2 := xOp_swap4 hoj (hfree j oj hoj hji hjun hnd) hy h1
   have hinv' : ∀ n k, dep md ops i n k = true → (listed.setIfInBounds j true).getD k true = false := fun n k hk => by
    have hjk : j ≠ k := fun e => by rw [← e, hnd n] at hk; cases hk
    rw [getD_set_ne true hjk]
    exact hinv n k hk
   have hfree' : ∀ (k : Nat) ok, ops[k]? = some ok → k ≠ i → (listed.setIfInBounds j true).getD k true = false →
     (∀ n, dep md ops i n k = false) → indep4 lp wp cls ops oi ok = true := fun k ok hk hki hun hno => by
    refine hfree k ok hk hki ?_ hno
    by_cases hjk : j = k
    ·subst hjk; exact hjun
    ·rw [getD_set_ne true hjk] at hun; exact hun
   refine xOp_mono4 (fun e' S' h3 => ?_) h2
   obtain ⟨Si', h3, h4⟩ := h3
   refine ih (listed.setIfInBounds j true) e' S' Si' hinv' hfree' (ready_mono hr (Ne.symm hji)) h3 ?_
   rw [Array.setIfInBounds_comm _ _ hji]
   exact h4
def lexC34 (lp wp : List Nat) (cls : Op → Cls) (md : Region.Mode) (ops : Array Oper) : List Nat → Array Bool → Bool
 | [], listed => (Region.ready md ops listed).isEmpty
 | k :: r, listed => (Region.ready md ops listed).contains k && freeC24 lp wp cls md ops listed k && lexC34 lp wp cls md ops r (listed.setIfInBounds k true)
def lexOk34 (lp wp : List Nat) (cls : Op → Cls) (ops : Array Oper) (ord : List Nat) : Bool := ord.length == ops.size && lexC34 lp wp cls .any ops ord (Array.replicate ops.size false)
theorem wpX_lex34 {cls : Op → Cls} {md : Region.Mode} {ops : Array Oper} {Q : Env → Store → Prop} : ∀ (l : List Nat) (listed : Array Bool) (e : Env) (S : Store), Closed md ops listed →
  lexC34 lp wp cls md ops l listed = true → wpL4 P Kp lp wp cls ops Q (l.filterMap fun i => ops[i]?) e S → wpX4 P Kp lp wp cls md ops Q l.length listed e S
 | [], _, _, _, _, hB, h => ⟨by simpa [lexC34] using hB, h⟩
 | k :: l, listed, e, S, hc, hB, h => by
  simp only [lexC34, Bool.and_eq_true] at hB
  obtain ⟨⟨hr, hf⟩, hB'⟩ := hB
  have hr : k ∈ Region.ready md ops listed := by simpa using hr
  obtain ⟨hun, o, h0, _⟩ := mem_ready.1 hr
  rw [List.filterMap_cons, h0] at h
  have hst : xOp4 P Kp lp wp cls ops k (wpL4 P Kp lp wp cls ops Q (l.filterMap fun i => ops[i]?)) e S := by unfold xOp4; simp only [h0]; exact h
  obtain ⟨v, S', hy, hK⟩ := yieldsX_of_xOp4 h0 hst
  exact wpX_first24 h0 l.length listed e S S' (dep_un hc hun) (freeC2_spec4 h0 hf) hr hy (wpX_lex34 l _ _ _ (closed_set hc hr) hB' hK)
theorem region_draws34 {ro : Option Nat} {cls : Op → Cls} {ops : Array Oper} {ord : List Nat} {id : Nat} {Q : Env → Store → Prop} {Q' : Exit → Act → World → Prop} {e : Env} {S : Store} {a : Act} {w : World} (hm : P.follows .mixedOrders = true) (hB : lexOk34 lp wp cls ops ord = true) (hds : dstsOk N ops = true)
  (hQ : ∀ e S a w, Conc N w0 g0 e S a w → Q e S → Q' .normal a w) (hc : Conc N w0 g0 e S a w) (h : wpL4 P Kp lp wp cls ops Q (ord.filterMap fun i => ops[i]?) e S) : (Code.region id ops true).wpIn (wR ro) 0 P Q' a w := by
 refine wpIn_region_any hm (wpAny_of_x4 (Kp := Kp) (lp := lp) (wp := wp) (cls := cls) hds hQ _ _ e S a _ (hc.draw _) ?_)
 simp only [lexOk34, Bool.and_eq_true, beq_iff_eq] at hB
 have h0 : Closed .any ops (Array.replicate ops.size false) := fun j oj hj hl => by
  have hlt : j < ops.size := (Array.getElem?_eq_some_iff.1 hj).1
  simp [hlt] at hl
 have := wpX_lex34 (md := .any) ord (Array.replicate ops.size false) e S h0 hB.2 h
 rw [hB.1] at this
 exact this
end
inductive CD where
 | of (c : CC) | seq (a b : CD) | cond (c : Operand) (t f : CD) | block (id : Nat) (b : CD) | loop (b : CD) | spec (Kp lp wp : List Nat) (l : List AO) | weak (c : CD) | raw (ops : Array Oper)
def WkP (N0 : Nat) (e : Env) (S : Store) (K : Env → Store → Prop) : Prop := ∃ e' S', Weak N0 e S e' S' ∧ K e' S'
theorem wk0 {N0 : Nat} {e : Env} {S : Store} {K : Env → Store → Prop} (h : K e S) : WkP N0 e S K := ⟨e, S, Weak.refl N0 e S, h⟩
def plcOk (Kp : List Nat) (op : Op) (e : Env) : Bool := match op with
 | .load _ x => (match ev e x with
  | .ptr k _ => Kp.contains k
  | .pst _ _ => !Kp.isEmpty
  | _ => false)
 | _ => false
def CallF (P : Program) (op : Op) (e : Env) (S : Store) (v : AV) (S' : Store) : Prop := S'.length = S.length ∧ match op with
 | .call c => (match c.callee with
  | .value (.func f) => ∀ R, AC P f ((c.args.toList.map (ev e)).map AV.wk) (S ++ R) v (S' ++ R)
  | _ => False)
 | _ => False
def AppF (P : Program) (op : Op) (e : Env) (S : Store) : Option (AV × SObj) := match op with
 | .call c => (match c.callee with
  | .builtin .append => (match c.args.toList, c.argTypes.toList with
   | [x, y], [t, u] => aAppW P t u S (ev e x) (ev e y)
   | _, _ => none)
  | _ => none)
 | .buildSlice t n parts => aLitW P t S n (parts.toList.map fun p => (p.1, ev e p.2))
 | _ => none
def ARg4 (P : Program) (pf rf : List FuncId) (Kp lp wp : List Nat) : List AO → Env → Store → (Env → Store → Prop) → Prop
 | [], e, S, K => K e S
 | o :: rest, e, S, K => o.gd = none ∧ match kdA lp wp o.dst o.op with
  | .rp => ARg P pf rf [⟨o.dst, o.op, none⟩] e S (fun e' S' => plcOk Kp o.op e = true ∧ ARg4 P pf rf Kp lp wp rest e' S' K)
  | .ap => ∃ v z, AppF P o.op e S = some (v, z) ∧ keeps Kp S (S ++ [z]) ∧ ARg4 P pf rf Kp lp wp rest (put e o.dst v) (S ++ [z]) K
  | .wr => ∃ v S', CallF P o.op e S v S' ∧ keeps Kp S S' ∧ ARg4 P pf rf Kp lp wp rest (put e o.dst v) S' K
  | _ => ARg P pf rf [⟨o.dst, o.op, none⟩] e S (fun e' S' => keeps Kp S S' ∧ ARg4 P pf rf Kp lp wp rest e' S' K)
def AX4 (P : Program) (pf rf : List FuncId) (N0 : Nat) : CD → (AX → Env → Store → Prop) → Env → Store → Prop
 | .of c, Q, e, S => AW P pf rf N0 c Q e S
 | .spec Kp lp wp l, Q, e, S => ARg4 P pf rf Kp lp wp l e S (Q .norm)
 | .weak c, Q, e, S => WkP N0 e S (AX4 P pf rf N0 c Q)
 | .raw ops, Q, e, S => wpX P (clsOf P pf rf) .any ops (Q .norm) ops.size (Array.replicate ops.size false) e S
 | .seq a b, Q, e, S => AX4 P pf rf N0 a (thenQ Q (AX4 P pf rf N0 b Q)) e S
 | .cond c t f, Q, e, S => match ev e c with
  | .bo b => iteP b (AX4 P pf rf N0 t Q e S) (AX4 P pf rf N0 f Q e S)
  | _ => False
 | .block id b, Q, e, S => AX4 P pf rf N0 b (blockQ id Q) e S
 | .loop b, Q, e, S => ALoop N0 (AX4 P pf rf N0 b) Q e S
def hasSp (sp : List (Nat × (List Nat × List Nat × List Nat))) : Code → Bool
 | .region id _ _ => (sp.lookup id).isSome
 | .seq a b => hasSp sp a || hasSp sp b
 | .cond _ a b => hasSp sp a || hasSp sp b
 | .block _ b => hasSp sp b
 | .loop b => hasSp sp b
 | _ => false
def ordOf (ord : List (Nat × List Nat)) (id : Nat) (ops : Array Oper) : List Nat := match ord.lookup id with
 | none => List.range ops.size
 | some l => l
def eraseC4 (sp : List (Nat × (List Nat × List Nat × List Nat))) (ord : List (Nat × List Nat)) (c : Code) : CD :=
 if !hasSp sp c then .of (eraseC3 ord c) else match c with
 | .region id ops d => (match sp.lookup id with
  | some (Kp, lp, wp) => if lp.head? == some 1000000 && d then .weak (.raw ops) else if lp.isEmpty && wp.isEmpty then .weak (.of (eraseC3 ord (.region id ops d))) else .weak (.spec Kp lp wp ((if d then (ordOf ord id ops).filterMap (fun i => ops[i]?) else ops.toList).map (eraseO ops)))
  | none => .of .bad)
 | .seq a b => .seq (eraseC4 sp ord a) (eraseC4 sp ord b)
 | .cond c a b => .cond c (eraseC4 sp ord a) (eraseC4 sp ord b)
 | .block id b => .block id (eraseC4 sp ord b)
 | .loop b => .loop (eraseC4 sp ord b)
 | _ => .of .bad
def codeOk4 (P : Program) (pf rf : List FuncId) (N : Nat) (sp : List (Nat × (List Nat × List Nat × List Nat))) (ord : List (Nat × List Nat)) : Code → Bool
 | .region id ops draw => (match sp.lookup id with
  | some (_, lp, wp) => if lp.head? == some 1000000 && draw then dstsOk N ops else if lp.isEmpty && wp.isEmpty then codeOk3 P pf rf N ord (.region id ops draw) else dstsOk N ops && (!draw || lexOk34 lp wp (clsOf P pf rf) ops (ordOf ord id ops))
  | none => codeOk3 P pf rf N ord (.region id ops draw))
 | .seq a b => codeOk4 P pf rf N sp ord a && codeOk4 P pf rf N sp ord b
 | .cond _ a b => codeOk4 P pf rf N sp ord a && codeOk4 P pf rf N sp ord b
 | .block _ b => codeOk4 P pf rf N sp ord b
 | .loop b => codeOk4 P pf rf N sp ord b
 | _ => true
section
variable {P : Program} {N N0 : Nat} {w0 : World} {g0 : Gh} {pf rf : List FuncId} {sp : List (Nat × (List Nat × List Nat × List Nat))} {ord : List (Nat × List Nat)}
theorem eraseC4_ns {c : Code} (h : hasSp sp c = false) : eraseC4 sp ord c = .of (eraseC3 ord c) := by
 unfold eraseC4
 rw [h]
 rfl
theorem eraseC4_seq {a b : Code} (h : hasSp sp (.seq a b) = true) : eraseC4 sp ord (.seq a b) = .seq (eraseC4 sp ord a) (eraseC4 sp ord b) := by
 rw [eraseC4, h]
 rfl
theorem eraseC4_cond {x : Operand} {a b : Code} (h : hasSp sp (.cond x a b) = true) : eraseC4 sp ord (.cond x a b) = .cond x (eraseC4 sp ord a) (eraseC4 sp ord b) := by
 rw [eraseC4, h]
 rfl
theorem eraseC4_block {id : Nat} {b : Code} (h : hasSp sp (.block id b) = true) : eraseC4 sp ord (.block id b) = .block id (eraseC4 sp ord b) := by
 rw [eraseC4, h]
 rfl
theorem eraseC4_loop {b : Code} (h : hasSp sp (.loop b) = true) : eraseC4 sp ord (.loop b) = .loop (eraseC4 sp ord b) := by
 rw [eraseC4, h]
 rfl
theorem codeOk4_ns : ∀ {c : Code}, hasSp sp c = false → codeOk4 P pf rf N sp ord c = true → codeOk3 P pf rf N ord c = true := by
 intro c
 induction c with
 | region id ops d =>
  intro h hk
  simp only [hasSp, Option.isSome_eq_false_iff, Option.isNone_iff_eq_none] at h
  simpa only [codeOk4, h] using hk
 | seq a b iha ihb =>
  intro h hk
  simp only [hasSp, Bool.or_eq_false_iff] at h
  simp only [codeOk4, codeOk3, Bool.and_eq_true] at hk ⊢
  exact ⟨iha h.1 hk.1, ihb h.2 hk.2⟩
 | cond x a b iha ihb =>
  intro h hk
  simp only [hasSp, Bool.or_eq_false_iff] at h
  simp only [codeOk4, codeOk3, Bool.and_eq_true] at hk ⊢
  exact ⟨iha h.1 hk.1, ihb h.2 hk.2⟩
 | block id b ih => intro h hk; exact ih (by simpa only [hasSp] using h) (by simpa only [codeOk4] using hk)
 | loop b ih => intro h hk; exact ih (by simpa only [hasSp] using h) (by simpa only [codeOk4] using hk)
 | _ => intro _ _; rfl
theorem aw4_of {ro : Option Nat} (hm : P.follows .mixedOrders = true) (hN0 : g0.nid = N0) {c : Code} {Q : AX → Env → Store → Prop} {e : Env} {S : Store} {a : Act} {w : World} (hns : hasSp sp c = false) (hok : codeOk4 P pf rf N sp ord c = true) (hc : Conc N w0 g0 e S a w) (h : AX4 P pf rf N0 (eraseC4 sp ord c) Q e S) : c.wpIn (wR ro) 0 P (toQ N w0 g0 Q) a w := by
 rw [eraseC4_ns hns] at h
 exact AW_ok3 hm hN0 c Q e S a w (codeOk4_ns hns hok) hc h
theorem does_loadp {o : Oper} {t : TypeId} {x : Operand} {e : Env} {S : Store} {v : AV} {Kp : List Nat} (ho : o.op = .load t x) (hv : aLoad (szOf P t) S (ev e x) = some v) (hp : plcOk Kp o.op e = true) : ∃ k ∈ Kp, ∀ S2 : Store, S2[k]? = S[k]? → Does P o e S2 v S2 := by
 rw [ho] at hp
 unfold plcOk at hp
 simp only at hp
 split at hp
 ·rename_i k off hx
  refine ⟨k, by simpa using hp, fun S2 h2 => does_load ho ?_⟩
  rw [hx] at hv ⊢
  unfold aLoad at hv ⊢
  split at hv
  ·rename_i hz he
   cases he
   simp only [h2]
   exact hv
  ·rename_i he; cases he
  ·rename_i he; cases he
  ·cases hv
 ·rename_i u off hx
  obtain ⟨k, hk⟩ : ∃ k, k ∈ Kp := by
   cases Kp with
   | nil => cases hp
   | cons k _ => exact ⟨k, by simp⟩
  refine ⟨k, hk, fun S2 _ => does_load ho ?_⟩
  rw [hx] at hv ⊢
  cases hz : szOf P t with
  | none => rw [hz] at hv; cases hv
  | some z => rw [hz] at hv; exact hv
 ·cases hp
theorem wpL4_of_ARg4 {Kp lp wp : List Nat} {ops : Array Oper} {Q : Env → Store → Prop} : ∀ (l : List Oper) (e : Env) (S : Store), ARg4 P pf rf Kp lp wp (l.map (eraseO ops)) e S Q → wpL4 P Kp lp wp (clsOf P pf rf) ops Q l e S
 | [], e, S, h => h
 | o :: rest, e, S, h => by
  simp only [List.map_cons, ARg4] at h
  obtain ⟨hgd, h⟩ := h
  have hg : aWant ops o e = some true := by
   unfold eraseO at hgd
   unfold aWant
   cases hx : o.guard with
   | none => rfl
   | some p => obtain ⟨j, want⟩ := p; rw [hx] at hgd; cases hgd
  have hop : (eraseO ops o).op = o.op := rfl
  have hds : (eraseO ops o).dst = o.dst := rfl
  rw [hop, hds] at h
  unfold kdA at h
  unfold wpL4
  simp only [hg]
  unfold XStep4
  have one : ∀ K : Env → Store → Prop, ARg P pf rf [⟨o.dst, o.op, none⟩] e S K → AOp P pf rf o.op e S (fun v S' => K (put e o.dst v) S') := fun K h => by
   rw [ARg] at h
   obtain ⟨b, hb, h⟩ := bindO_spec h
   cases hb
   have h := h.1 rfl
   have e1 : (fun v S' => ARg P pf rf [] (put e o.dst v) S' K) = fun v S' => K (put e o.dst v) S' := by funext v S'; rw [ARg]
   rw [e1] at h
   exact h
  cases hk : kdO lp wp o.dst o.op with
  | rp =>
   rw [hk] at h
   simp only at h ⊢
   have h := one _ h
   cases hl : o.op with
   | load t x =>
    rw [hl] at h
    unfold AOp at h
    simp only at h
    obtain ⟨v, hv, h1, h2⟩ := bindO_spec h
    rw [← hl] at h1
    exact ⟨v, S, ⟨rfl, does_loadp hl hv h1⟩, wpL4_of_ARg4 rest _ _ h2⟩
   | _ =>
    exfalso
    obtain ⟨v, S', _, h2, _⟩ := AOp_ok h
    unfold plcOk at h2
    rw [hl] at h2
    cases h2
  | wr =>
   rw [hk] at h
   simp only at h ⊢
   obtain ⟨v, S', ⟨h1, h2⟩, h3, h4⟩ := h
   refine ⟨v, S', ⟨h1, h3, fun R => ?_⟩, wpL4_of_ARg4 rest _ _ h4⟩
   split at h2
   ·rename_i c ho
    split at h2
    ·rename_i f hf
     refine does_call (fa := []) (ca := []) ho hf rfl ?_
     simp only [List.nil_append, List.append_nil]
     exact (h2 R).weak
    ·exact h2.elim
   ·exact h2.elim
  | al =>
   rw [hk] at h
   simp only at h ⊢
   cases hl : o.op with
   | alloc t =>
    rw [hl] at h
    simp only at h
    rw [← hl] at h
    have h := one _ h
    rw [hl] at h
    unfold AOp at h
    simp only at h
    obtain ⟨z, hz, h1, h2⟩ := bindO_spec h
    refine ⟨_, _, ⟨⟨_, rfl, fun S2 h3 => ?_⟩, h1⟩, wpL4_of_ARg4 rest _ _ h2⟩
    rw [← h3]
    exact does_alloc hl hz
   | call c =>
    rw [hl] at h
    simp only at h
    obtain ⟨v, z, h1, h2, h3⟩ := h
    unfold AppF at h1
    simp only at h1
    split at h1
    ·rename_i hb
     split at h1
     ·rename_i x y t u hargs hts
      have hc : c = { callee := .builtin .append, args := #[x, y], argTypes := #[t, u] } := by
       cases c with | mk ce ar at_ =>
       simp only at hb hargs hts
       rw [hb]
       congr 1
       ·exact Array.ext' hargs
       ·exact Array.ext' hts
      refine ⟨_, _, ⟨⟨_, rfl, fun S2 h4 => does_appendW (by rw [hl, hc]) ?_⟩, h2⟩, wpL4_of_ARg4 rest _ _ h3⟩
      unfold aAppW at h1 ⊢
      rw [h4]
      exact h1
     ·cases h1
    ·cases h1
   | buildSlice t n parts =>
    rw [hl] at h
    simp only at h
    obtain ⟨v, z, h1, h2, h3⟩ := h
    unfold AppF at h1
    simp only at h1
    refine ⟨_, _, ⟨⟨_, rfl, fun S2 h4 => does_litW hl ?_⟩, h2⟩, wpL4_of_ARg4 rest _ _ h3⟩
    unfold aLitW at h1 ⊢
    rw [h4]
    exact h1
   | _ =>
    exfalso
    unfold kdO at hk
    rw [hl] at hk
    split at hk
    ·split at hk
     ·cases hk
     ·split at hk <;> cases hk
    ·cases hk
  | ot =>
   rw [hk] at h
   simp only at h ⊢
   have h := one _ h
   obtain ⟨v, S', h1, h3, h4⟩ := AOp_ok h
   exact ⟨v, S', ⟨h1, h3⟩, wpL4_of_ARg4 rest _ _ h4⟩
theorem wpList_of_L4 {ro : Option Nat} {Kp lp wp : List Nat} {cls : Op → Cls} {ops : Array Oper} {Q : Env → Store → Prop} {Q' : Exit → Act → World → Prop} (hds : dstsOk N ops = true) (hQ : ∀ e S a w, Conc N w0 g0 e S a w → Q e S → Q' .normal a w) :
  ∀ (l : List Oper), (∀ o ∈ l, ∃ i : Nat, ops[i]? = some o) → ∀ (e : Env) (S : Store) (a : Act) (w : World), Conc N w0 g0 e S a w → wpL4 P Kp lp wp cls ops Q l e S → wpListIn (wR ro) 0 P ops Q' l a w
 | [], _, e, S, a, w, hc, h => hQ e S a w hc h
 | o :: l, hl, e, S, a, w, hc, h => by
  obtain ⟨i, hi⟩ := hl o (by simp)
  have hd := dstsOk_spec hds hi
  have her : ∃ g, ERel w g e a := by obtain ⟨_, _, g, _, h4, _⟩ := hc; exact ⟨g, h4⟩
  obtain ⟨g, her⟩ := her
  unfold wpL4 at h
  unfold wpListIn
  split at h
  ·rename_i hw
   rw [aWant_ok her hw]
   obtain ⟨v, S', h1, h2⟩ := h
   simp only [if_true]
   exact hc.does hd h1.does (fun a' w' hc' => wpList_of_L4 hds hQ l (fun o ho => hl o (by simp [ho])) _ _ a' w' hc' h2) ro
  ·rename_i hw
   rw [aWant_ok her hw]
   simp only [Bool.false_eq_true, if_false]
   exact ⟨fun _ _ => trivial, wpList_of_L4 hds hQ l (fun o ho => hl o (by simp [ho])) _ _ _ w (hc.skip hd) h⟩
  ·exact h.elim
theorem AW_ok4 {ro : Option Nat} (hm : P.follows .mixedOrders = true) (hN0 : g0.nid = N0) : ∀ (c : Code) (Q : AX → Env → Store → Prop) (e : Env) (S : Store) (a : Act) (w : World), codeOk4 P pf rf N sp ord c = true → Conc N w0 g0 e S a w → AX4 P pf rf N0 (eraseC4 sp ord c) Q e S → c.wpIn (wR ro) 0 P (toQ N w0 g0 Q) a w := by
 intro c
 induction c with
 | region id ops draw =>
  intro Q e S a w hok hc h
  cases hns : hasSp sp (.region id ops draw) with
  | false => exact aw4_of hm hN0 hns hok hc h
  | true =>
   simp only [hasSp] at hns
   obtain ⟨⟨Kp, lp, wp⟩, hs⟩ := Option.isSome_iff_exists.1 hns
   have hQ : ∀ e S a w, Conc N w0 g0 e S a w → Q .norm e S → toQ N w0 g0 Q .normal a w := fun e S a w hc hq => ⟨e, S, hc, hq⟩
   simp only [codeOk4, hs] at hok
   simp only [eraseC4, hasSp, hs, Option.isSome_some, Bool.not_true, Bool.false_eq_true, if_false] at h
   by_cases hraw : (lp.head? == some 1000000 && draw) = true
   ·rw [if_pos hraw] at h hok
    simp only [AX4] at h
    obtain ⟨e1, S1, hwk, h⟩ := h
    have hd : draw = true := (Bool.and_eq_true_iff.1 hraw).2
    subst hd
    exact wpIn_region_any hm (wpAny_of_x ro (cls := clsOf P pf rf) hok hQ _ _ e1 S1 a _ ((hwk N w0 g0 a w hN0 hc).draw _) h)
   rw [if_neg hraw] at h hok
   by_cases hem : (lp.isEmpty && wp.isEmpty) = true
   ·rw [if_pos hem] at h hok
    simp only [AX4] at h
    obtain ⟨e1, S1, hwk, h⟩ := h
    exact AW_ok3 hm hN0 _ Q e1 S1 a w hok (hwk N w0 g0 a w hN0 hc) h
   ·rw [if_neg hem] at h hok
    simp only [AX4] at h
    obtain ⟨e1, S1, hwk, h⟩ := h
    have hc1 := hwk N w0 g0 a w hN0 hc
    simp only [Bool.and_eq_true] at hok
    cases draw with
    | true =>
     simp only [if_true, Bool.not_true, Bool.false_or] at h hok
     exact region_draws34 hm hok.2 hok.1 hQ hc1 (wpL4_of_ARg4 _ e1 S1 h)
    | false =>
     simp only [Bool.false_eq_true, if_false] at h
     refine wpIn_region_list (wpList_of_L4 (cls := clsOf P pf rf) hok.1 hQ ops.toList (fun o ho => ?_) e1 S1 a w hc1 (wpL4_of_ARg4 _ e1 S1 h))
     obtain ⟨i, hi⟩ := List.mem_iff_getElem?.1 ho
     exact ⟨i, by simpa using hi⟩
 | seq x y ihx ihy =>
  intro Q e S a w hok hc h
  cases hns : hasSp sp (.seq x y) with
  | false => exact aw4_of hm hN0 hns hok hc h
  | true =>
   rw [eraseC4_seq hns] at h
   simp only [codeOk4, Bool.and_eq_true] at hok
   simp only [AX4] at h
   refine wpIn_seq (Go.wpIn_mono (ihx _ e S a w hok.1 hc h) ?_)
   intro ex a' w' hq
   cases ex with
   | normal => obtain ⟨e', S', hc', h'⟩ := hq; exact ihy Q e' S' a' w' hok.2 hc' h'
   | exit id => exact hq
   | ret => exact hq
   | _ => exact hq.elim
 | cond c x y ihx ihy =>
  intro Q e S a w hok hc h
  cases hns : hasSp sp (.cond c x y) with
  | false => exact aw4_of hm hN0 hns hok hc h
  | true =>
   rw [eraseC4_cond hns] at h
   simp only [codeOk4, Bool.and_eq_true] at hok
   simp only [AX4] at h
   split at h
   ·rename_i b hb
    have hcb : a.eval c = .bool b := by
     obtain ⟨_, _, g, _, h4, _⟩ := hc
     have := ev_ok h4 c
     rw [hb] at this
     cases hv : a.eval c <;> rw [hv] at this <;> cases this
     rfl
    refine wpIn_cond_split hcb (fun ht => ihx Q e S a w hok.1 hc (h.1 ht)) (fun hf => ihy Q e S a w hok.2 hc (h.2 hf))
   ·exact h.elim
 | block id c ih =>
  intro Q e S a w hok hc h
  cases hns : hasSp sp (.block id c) with
  | false => exact aw4_of hm hN0 hns hok hc h
  | true =>
   rw [eraseC4_block hns] at h
   simp only [AX4] at h
   refine wpIn_block (Go.wpIn_mono (ih _ e S a w hok hc h) ?_)
   intro ex a' w' hq
   cases ex with
   | normal => exact hq
   | exit i =>
    obtain ⟨e', S', hc', h'⟩ := hq
    simp only [blockQ] at h'
    simp only [Exit.inBlock]
    by_cases hi : i = id
    ·rw [if_pos hi] at h' ⊢; exact ⟨e', S', hc', h'⟩
    ·rw [if_neg hi] at h' ⊢; exact ⟨e', S', hc', h'⟩
   | ret => exact hq
   | _ => exact hq.elim
 | loop c ih =>
  intro Q e S a w hok hc h
  cases hns : hasSp sp (.loop c) with
  | false => exact aw4_of hm hN0 hns hok hc h
  | true =>
   rw [eraseC4_loop hns] at h
   simp only [AX4] at h
   obtain ⟨I, ⟨n, e', S', hwk, hI⟩, hround⟩ := h
   refine wpIn_loop_ghost (fun n a w => ∃ e S, Conc N w0 g0 e S a w ∧ I n e S) n ⟨e', S', hwk N w0 g0 a w hN0 hc, hI⟩ ?_
   rintro n a w ⟨e, S, hc, hI⟩
   refine Go.wpIn_mono (ih _ e S a w hok hc (hround n e S hI)) ?_
   intro ex a' w' hq
   cases ex with
   | normal =>
    obtain ⟨e1, S1, hc1, n', e2, S2, hlt, hwk', hI'⟩ := hq
    exact ⟨n', hlt, e2, S2, hwk' N w0 g0 a' w' hN0 hc1, hI'⟩
   | exit i => exact hq
   | ret => exact hq
   | _ => exact hq.elim
 | _ =>
  intro Q e S a w hok hc h
  exact aw4_of hm hN0 rfl hok hc h
end
section
variable {P : Program}
theorem AC.enter4 {f : FuncId} {fn : Func} {c : Code} {args : List AV} {S S' : Store} {v : AV} (pf rf : List FuncId) (sp : List (Nat × (List Nat × List Nat × List Nat))) (ord : List (Nat × List Nat)) (hf : P.funcs[f]? = some fn) (hb : fn.body = some c) (hname : fn.name ≠ "runtime.NumGoroutine") (hm : P.follows .mixedOrders = true)
  (hn : args.length ≤ fn.ntmps) (hok : codeOk4 P pf rf fn.ntmps sp ord c = true) (h : AX4 P pf rf S.length (eraseC4 sp ord c) (finQ P fn.results.toList S.length v S') (argEnv args) S) : AC P f args S v S' := by
 exact AC.of_wp hf hb hname hn fun w g a hg hc => AW_ok4 hm hg c _ (argEnv args) S a w hok hc h
end
section
variable (P : Program) (pf rf : List FuncId) (N0 : Nat) (Q : AX → Env → Store → Prop) (e : Env) (S : Store) (K : Env → Store → Prop)
theorem AX4_of (c : CC) : AX4 P pf rf N0 (.of c) Q e S = AW P pf rf N0 c Q e S := rfl
theorem AX4_seq (a b : CD) : AX4 P pf rf N0 (.seq a b) Q e S = AX4 P pf rf N0 a (thenQ Q (AX4 P pf rf N0 b Q)) e S := rfl
theorem AX4_weak (c : CD) : AX4 P pf rf N0 (.weak c) Q e S = WkP N0 e S (AX4 P pf rf N0 c Q) := rfl
theorem AX4_spec (Kp lp wp : List Nat) (l : List AO) : AX4 P pf rf N0 (.spec Kp lp wp l) Q e S = ARg4 P pf rf Kp lp wp l e S (Q .norm) := rfl
def AXs (c : CD) : Prop := AX4 P pf rf N0 c Q e S
theorem AX4_cond (c : Operand) (t f : CD) : AX4 P pf rf N0 (.cond c t f) Q e S = condP (ev e c) (AXs P pf rf N0 Q e S t) (AXs P pf rf N0 Q e S f) := rfl
theorem AXs_eq (c : CD) : AXs P pf rf N0 Q e S c = AX4 P pf rf N0 c Q e S := rfl
theorem AX4_block (id : Nat) (b : CD) : AX4 P pf rf N0 (.block id b) Q e S = AX4 P pf rf N0 b (blockQ id Q) e S := rfl
theorem AX4_loop (b : CD) : AX4 P pf rf N0 (.loop b) Q e S = ALoop N0 (AX4 P pf rf N0 b) Q e S := rfl
theorem ARg4_nil (Kp lp wp : List Nat) : ARg4 P pf rf Kp lp wp [] e S K = K e S := rfl
end
def sideR (P : Program) (pf rf : List FuncId) (K : Env → Store → Prop) (Kp lp wp : List Nat) (op : Op) (rest : List AO) (e : Env) (e' : Env) (S' : Store) : Prop := plcOk Kp op e = true ∧ ARg4 P pf rf Kp lp wp rest e' S' K
def sideK (P : Program) (pf rf : List FuncId) (K : Env → Store → Prop) (Kp lp wp : List Nat) (rest : List AO) (S : Store) (e' : Env) (S' : Store) : Prop := keeps Kp S S' ∧ ARg4 P pf rf Kp lp wp rest e' S' K
section
variable {P : Program} {pf rf : List FuncId} {e e' : Env} {S S' : Store} {K : Env → Store → Prop} {Kp lp wp : List Nat} {rest : List AO}
theorem a4r {d : Option Nat} {op : Op} (h : ARg P pf rf [⟨d, op, none⟩] e S (sideR P pf rf K Kp lp wp op rest e)) (hk : kdA lp wp d op = .rp := by rfl) : ARg4 P pf rf Kp lp wp (⟨d, op, none⟩ :: rest) e S K := by
 refine ⟨rfl, ?_⟩
 show match kdA lp wp d op with
  | .rp => _
  | .ap => _
  | .wr => _
  | _ => _
 rw [hk]
 exact h
theorem a4 {d : Option Nat} {op : Op} (h : ARg P pf rf [⟨d, op, none⟩] e S (sideK P pf rf K Kp lp wp rest S)) (hk : kdA lp wp d op = .ot := by rfl) : ARg4 P pf rf Kp lp wp (⟨d, op, none⟩ :: rest) e S K := by
 refine ⟨rfl, ?_⟩
 show match kdA lp wp d op with
  | .rp => _
  | .ap => _
  | .wr => _
  | _ => _
 rw [hk]
 exact h
theorem p4 {d : Option Nat} {op : Op} {v : AV} {z : SObj} (h : AppF P op e S = some (v, z)) (h' : ARg4 P pf rf Kp lp wp rest (put e d v) (S ++ [z]) K) (hk : kdA lp wp d op = .ap := by rfl) (hk' : keeps Kp S (S ++ [z]) := by (intro k hk; simp only [List.mem_cons, List.not_mem_nil, or_false] at hk; first | (subst hk; rfl) | (rcases hk with rfl | rfl <;> rfl) | (rcases hk with rfl | rfl | rfl <;> rfl))) : ARg4 P pf rf Kp lp wp (⟨d, op, none⟩ :: rest) e S K := by
 refine ⟨rfl, ?_⟩
 show match kdA lp wp d op with
  | .rp => _
  | .ap => _
  | .wr => _
  | _ => _
 rw [hk]
 exact ⟨v, z, h, hk', h'⟩
theorem k4 (h : ARg4 P pf rf Kp lp wp rest e' S' K) (hk : keeps Kp S S' := by (intro k hk; simp only [List.mem_cons, List.not_mem_nil, or_false] at hk; first | (subst hk; rfl) | (rcases hk with rfl | rfl <;> rfl) | (rcases hk with rfl | rfl | rfl <;> rfl))) : sideK P pf rf K Kp lp wp rest S e' S' := ⟨hk, h⟩
theorem k4r {op : Op} (h : ARg4 P pf rf Kp lp wp rest e' S' K) (hk : plcOk Kp op e = true := by rfl) : sideR P pf rf K Kp lp wp op rest e e' S' := ⟨hk, h⟩
end
set_option maxRecDepth 100000
theorem run4 {A B : Prop} (h : B) (e : A = B := by
  conv =>
   lhs
   (try simp only [AWs_eq, ARgs_eq, AOps_eq, AXs_eq, iteP_true, iteP_false])
   (try simp -implicitDefEqProofs (maxSteps := 4000000) (disch := (first | omega | (simp only [List.length_append, List.length_cons, List.length_map, List.length_nil, List.length_take, List.length_drop]; omega))) only [↓AX4_of, ↓AX4_seq, ↓AX4_spec, ↓AX4_weak, ↓AX4_cond, ↓AX4_block, ↓AX4_loop, ↓ARg4_nil, ↓zpre, zpost, cst1, ↓reduceIte, Nat.reduceEqDiff, Nat.reduceAdd, Nat.reduceLT, Nat.reduceLeDiff, Nat.reduceMul, Nat.reduceSub, Int.reduceToNat, Int.reduceAdd, Int.reduceSub, Int.reduceMul, Int.reduceNeg, Int.reduceLE, Int.reduceLT, Int.reduceEq, Int.reduceBEq, Int.reduceBNe, Nat.reduceBEq, Nat.reduceBNe, aBin, aEq, aEqF, aNilEq, aInt, aStr, aUn, aConv, aNil, aFldAddr, aFld, aIdxAddr, aIdx, aBui, aLoad, aStore, aLits, aLit, aMake, aMakeW, aMapSet, aLook, kfind, keq, kok, lookOut, aMk, aRange, aNext, aBytes, aApp, srcOf, aSlice, aBound, modeCut, apart, aFill, aval, aGd, zobj, zfr, ACall, AV.wk, AV.wk2, AV.wk1, AV.cells, AV.solid, AV.ro, AV.ro1, ← List.map_take, ← List.map_drop, reduceCtorEq, Option.isNone_some, Option.isSome_none, tf0, tf1, tf2, tf3, tf4, tf5, tf6, tf7, tf8, tf9, tf10, tf11, tf12, tf13, tf14, tf15, tf16, tf17, tf20, tf21, tf23, tf24, tf25, tf26, tf27, tf28, tf31])
   (try simp only [iteP_true, iteP_false])) : A := e ▸ h
theorem runf4 {F A B : Prop} (f : F) (h : B) (e : F → A = B := by
  intro f
  conv =>
   lhs
   (try simp only [AWs_eq, ARgs_eq, AOps_eq, AXs_eq, iteP_true, iteP_false])
   (try simp -implicitDefEqProofs (maxSteps := 4000000) (disch := (first | omega | (simp only [List.length_append, List.length_cons, List.length_map, List.length_nil, List.length_take, List.length_drop]; omega))) only [↓AX4_of, ↓AX4_seq, ↓AX4_spec, ↓AX4_weak, ↓AX4_cond, ↓AX4_block, ↓AX4_loop, ↓ARg4_nil, ↓zpre, zpost, cst1, ↓reduceIte, Nat.reduceEqDiff, Nat.reduceAdd, Nat.reduceLT, Nat.reduceLeDiff, Nat.reduceMul, Nat.reduceSub, Int.reduceToNat, Int.reduceAdd, Int.reduceSub, Int.reduceMul, Int.reduceNeg, Int.reduceLE, Int.reduceLT, Int.reduceEq, Int.reduceBEq, Int.reduceBNe, Nat.reduceBEq, Nat.reduceBNe, aBin, aEq, aEqF, aNilEq, aInt, aStr, aUn, aConv, aNil, aFldAddr, aFld, aIdxAddr, aIdx, aBui, aLoad, aStore, aLits, aLit, aMake, aMakeW, aMapSet, aLook, kfind, keq, kok, lookOut, aMk, aRange, aNext, aBytes, aApp, srcOf, aSlice, aBound, modeCut, apart, aFill, aval, aGd, zobj, zfr, ACall, AV.wk, AV.wk2, AV.wk1, AV.cells, AV.solid, AV.ro, AV.ro1, ← List.map_take, ← List.map_drop, reduceCtorEq, Option.isNone_some, Option.isSome_none, tf0, tf1, tf2, tf3, tf4, tf5, tf6, tf7, tf8, tf9, tf10, tf11, tf12, tf13, tf14, tf15, tf16, tf17, tf20, tf21, tf23, tf24, tf25, tf26, tf27, tf28, tf31, f])
   (try simp only [iteP_true, iteP_false])) : A := e f ▸ h
end Go.Proofs.YtleljbiejeofgaaGreatDoor.Pe
namespace Go.Proofs.YtleljbiejeofgaaGreatDoor.Pe
open Go Go.RowKit
variable [Tab]
theorem WF.still {w : World} {g : Gh} {S : Store} (h : WF w g S) {l n : Nat} {o : SObj} {arr : Array Value} {T : TypeId} {fr : Nat × Nat} (hS : S[l]? = some o) (hown : g.own l (g.pl l)) (hG : g.G (g.pl l) = 0) (hh : w.heap[g.pl l]? = some (.cells arr T fr)) :
  WF w { g with G := fun x => if x = g.pl l then n else g.G x } (S.set l .dead) ∧ Evo w g w { g with G := fun x => if x = g.pl l then n else g.G x } := by
 have hlS := (List.getElem?_eq_some_iff.1 hS).1
 have hln : l < g.nid := by rw [h.nid]; exact hlS
 let g' : Gh := { g with G := fun x => if x = g.pl l then n else g.G x }
 have hne : ∀ b, 0 < g.G b → b ≠ g.pl l := fun b h e => by rw [e, hG] at h; exact absurd h (Nat.lt_irrefl 0)
 have hle : Le w g w g' := ⟨fun _ _ _ _ h => h, fun b o v hb _ => by
  show o < (if b = g.pl l then n else g.G b)
  rw [if_neg (hne b (by omega))]; exact hb, Nat.le_refl _, fun _ _ => ⟨rfl, .inl ⟨rfl, rfl, rfl⟩⟩, fun b me c hg hm => ⟨by
  show 0 < (if b = g.pl l then n else g.G b)
  rw [if_neg (hne b hg)]; exact hg, hm⟩⟩
 refine ⟨⟨by rw [List.length_set]; exact h.nid, fun k o hk => ?_, h.disj, h.lt, h.tab.le hle⟩, ⟨hle, rfl, rfl, rfl, Nat.le_refl _, fun _ _ _ => rfl, fun _ _ hk hb _ => ⟨hk, hb⟩, fun b _ hno => if_neg (fun e => hno l hln (by rw [e]; exact hown))⟩⟩
 by_cases hkl : k = l
 ·subst hkl; rw [List.getElem?_set_self hlS] at hk; cases hk; trivial
 ·rw [List.getElem?_set_ne (Ne.symm hkl)] at hk
  have hkn : k < g.nid := by rw [h.nid]; exact (List.getElem?_eq_some_iff.1 hk).1
  refine (h.obj k o hk).keep hle rfl rfl rfl rfl rfl (fun b hb' => ?_) (fun _ _ => rfl)
  exact if_neg (fun e => hkl (h.disj k l b hkn hln hb' (by rw [e]; exact hown)))
theorem WF.kill {w : World} {g : Gh} {S : Store} (h : WF w g S) (l : Nat) : WF w g (S.set l .dead) := by
 refine ⟨by rw [List.length_set]; exact h.nid, fun k o hk => ?_, h.disj, h.lt, h.tab⟩
 by_cases hkl : k = l
 ·subst hkl
  by_cases hlt : k < S.length
  ·rw [List.getElem?_set_self hlt] at hk; cases hk; trivial
  ·rw [List.getElem?_eq_none (by simp; omega)] at hk; cases hk
 ·rw [List.getElem?_set_ne (Ne.symm hkl)] at hk
  exact h.obj k o hk
theorem sl_of_cells {w : World} {g g' : Gh} {es : List AV} {arr : Array Value} {sz b c : Nat} {T : TypeId} {fr : Nat × Nat} (hle : Le w g w g') (hsz : ∀ x ∈ es, x.cells.length = sz) (hh : w.heap[b]? = some (.cells arr T fr)) (hG : es.length * sz ≤ g'.G b)
  (hc : es.length ≤ c) (hm : c ≤ maxLen) (hok : (flat es).all (AV.o1 0) = true) (h1 : ∀ (j : Nat) v, arr[j]? = some v → j < (flat es).length → v.oneCell' = true) (hr : ∀ (j : Nat) u v, (flat es)[j]? = some u → arr[j]? = some v → Rel w g u v) (hl : (flat es).length ≤ arr.size) :
  Rel w g' (.sl .ro es) (.slice (some ⟨b, 0, none⟩) es.length c) := by
 have hfl := flat_length hsz
 have hren : RenOk w g w g'.noid id 0 := ⟨hle.noid, fun l hl => absurd hl (Nat.not_lt_zero _)⟩
 refine .sl _ .ro es _ c sz (fun j => arr.getD j undef) hc hm hsz (fun _ => ⟨b, 0, rfl, fun j hj => ⟨by omega, ?_⟩⟩) (fun j hj => ?_) (fun j u hu => ?_) trivial
 ·rw [Nat.zero_add, cell_of_row w b j arr T fr hh]
  have : j < arr.size := by omega
  simp [Array.getD, this]
 ·have : j < arr.size := by omega
  refine h1 j _ ?_ hj
  simp [Array.getD, this]
 ·have hj := (List.getElem?_eq_some_iff.1 hu).1
  have hj' : j < arr.size := by omega
  have hv : arr[j]? = some (arr.getD j undef) := by simp [Array.getD, hj']
  have hk := List.all_eq_true.1 hok u (List.mem_of_getElem? hu)
  have := (hr j u _ hu hv).r1 hren hk
  rwa [r1_id hk (fun i hi => absurd hi (Nat.not_lt_zero _))] at this
theorem WF.frz {w : World} {g : Gh} {S : Store} (h : WF w g S) {l : Nat} {es : List AV} {e : TypeId} {sz : Nat} (hS : S[l]? = some (.row (flat es) e sz)) (hsz : ∀ x ∈ es, x.cells.length = sz) (hok : (flat es).all (AV.o1 0) = true) :
  ∃ g', WF w g' (S.set l .dead) ∧ Evo w g w g' ∧ ∀ cv, Rel w g (.wr l es.length none) cv → Rel w g' (.sl .ro es) cv := by
 obtain ⟨hb, ⟨hsz0, hwm⟩, hrow⟩ := h.obj l _ hS
 have hfl := flat_length hsz
 have hn : es.length = g.wm l := Nat.eq_of_mul_eq_mul_right hsz0 (by omega)
 rcases Nat.eq_zero_or_pos es.length with h0 | h0
 ·have : es = [] := List.eq_nil_of_length_eq_zero h0
  subst this
  refine ⟨g, h.kill l, Evo.refl w g, fun cv hr => ?_⟩
  cases hr with
  | wr _ _ _ c A hl hb hwn hc hcm h0 hA => exact .sl _ .ro [] A c sz (fun _ => undef) hc hcm (by simp) (fun h => absurd h (Nat.lt_irrefl 0)) (by simp [flat]) (by simp [flat]) trivial
 ·rcases hrow with ⟨_, hrow⟩ | ⟨hown, hG, arr, fr, hh, hfr, hcap, hcl, h9, h10⟩
  ·rw [hrow] at hfl
   have := Nat.mul_pos h0 hsz0
   simp at hfl; omega
  ·obtain ⟨q1, q2⟩ := h.still (n := es.length * sz) hS hown hG hh
   refine ⟨_, q1, q2, fun cv hr => ?_⟩
   cases hr with
   | wr _ _ _ c A hl hb hwn hc hcm h0' hA =>
    obtain ⟨rfl, hA⟩ : c = g.cap l ∧ (0 < c → A = some ⟨g.pl l, 0, none⟩) := by
     rcases hA with hA | hA
     ·omega
     ·exact hA
    rw [hA (by omega)]
    exact sl_of_cells q2.toLe hsz hh (by simp) hc hcm hok h9 h10 hcl
theorem Weak.frz (N0 : Nat) {e : Env} {S : Store} (d l n : Nat) {cs es : List AV} {ty : TypeId} {sz : Nat} (hd : e d = .wr l n none) (hS : S[l]? = some (.row cs ty sz)) (hcs : cs = flat es) (hn : n = es.length) (hsz : allSz sz es = true) (hok : cs.all (AV.o1 0) = true) : Weak N0 e S (upd e d (.sl .ro es)) (S.set l .dead) := by
 rintro N w0 g0 a w hN ⟨h1, h2, g, h3, h4, h5⟩
 subst hcs hn
 obtain ⟨g', q1, q2, q3⟩ := h3.frz hS (allSz_spec hsz) hok
 refine ⟨h1, h2, g', q1, fun t => ?_, h5.trans q2⟩
 by_cases htd : t = d
 ·subst htd
  rw [upd_same]
  have ht := h4 t
  rw [hd] at ht
  exact q3 _ ht
 ·rw [upd_ne _ htd]
  exact (h4 t).le q2.toLe
theorem AppF_append (P : Program) (e : Env) (S : Store) (x y : Operand) (t u : TypeId) : AppF P (.call { callee := .builtin .append, args := #[x, y], argTypes := #[t, u] }) e S = aAppW P t u S (ev e x) (ev e y) := rfl
theorem AppF_lit (P : Program) (e : Env) (S : Store) (t : TypeId) (n : Nat) (parts : Array (Nat × Operand)) : AppF P (.buildSlice t n parts) e S = aLitW P t S n (parts.toList.map fun p => (p.1, ev e p.2)) := rfl
theorem flat_cons (v : AV) (l : List AV) : flat (v :: l) = v.cells ++ flat l := rfl
theorem flat_ok {α : Type} (f : α → AV) (h : ∀ a, (f a).cells.all (AV.o1 0) = true) : ∀ l : List α, (flat (l.map f)).all (AV.o1 0) = true
 | [] => rfl
 | a :: l => by
  rw [List.map_cons, flat_cons, List.all_append, h a, flat_ok f h l]
  rfl
theorem flat_len {α : Type} (f : α → AV) (n : Nat) (h : ∀ a, (f a).cells.length = n) : ∀ l : List α, (flat (l.map f)).length = l.length * n
 | [] => by simp [flat]
 | a :: l => by rw [List.map_cons, flat_cons, List.length_append, h a, flat_len f n h l, List.length_cons, Nat.add_mul]; omega
end Go.Proofs.YtleljbiejeofgaaGreatDoor.Pe
end
section
namespace Go.Proofs.YtleljbiejeofgaaGreatDoor.Pe
open Go Go.RowKit
variable [Tab]
def putE (e : Env) (ps : List Tmp) (vs : List AV) : Env := (ps.zip vs).foldl (fun e p => upd e p.1 p.2) e
theorem argEnv_envL {N t : Nat} (e : Env) (h : t < N) : argEnv (envL N e) t = e t := by
 simp [argEnv, envL, h]
theorem putE_nil (e : Env) (vs : List AV) : putE e [] vs = e := by simp [putE]
theorem putE_cons (e : Env) (p : Tmp) (ps : List Tmp) (v : AV) (vs : List AV) : putE e (p :: ps) (v :: vs) = putE (upd e p v) ps vs := rfl
theorem putE_rel {w : World} {g : Gh} : ∀ (q : List Tmp) (vs : List AV) (cs : List Value) (e : Env) (a : Act), vs.length = q.length → cs.length = q.length → (∀ (j : Nat) u x, vs[j]? = some u → cs[j]? = some x → Rel w g u x) → (∀ p ∈ q, p < a.tmps.size) → ERel w g e a →
  ERel w g (putE e q vs) { a with tmps := (q.zip cs).foldl (fun t p => t.setIfInBounds p.1 p.2) a.tmps } ∧ ((q.zip cs).foldl (fun t p => t.setIfInBounds p.1 p.2) a.tmps).size = a.tmps.size
 | [], vs, cs, e, a, _, _, _, _, he => ⟨by rw [putE_nil]; exact he, rfl⟩
 | p :: q, [], cs, e, a, h, _, _, _, _ => by simp at h
 | p :: q, v :: vs, [], e, a, _, h, _, _, _ => by simp at h
 | p :: q, v :: vs, c :: cs, e, a, h1, h2, h3, h4, he => by
  have hp : ERel w g (Pe.put e (some p) v) (a.put (some p) c) := he.put (fun x hx => by cases hx; exact h4 p (by simp)) (h3 0 v c rfl rfl)
  have := putE_rel q vs cs (upd e p v) (a.put (some p) c) (by simpa using h1) (by simpa using h2) (fun j u x hu hx => h3 (j + 1) u x (by simpa using hu) (by simpa using hx)) (fun x hx => by simpa [Act.put] using h4 x (by simp [hx])) hp
  refine ⟨this.1, ?_⟩
  have h5 := this.2
  simp only [Act.put, Array.size_setIfInBounds] at h5
  exact h5
section
variable {P : Program} {pf rf : List FuncId}
def bdyQ (N0 l : Nat) (o : LoopState → SObj) (S' : Store) : AX → Env → Store → Prop
 | .norm => fun e S => ∃ e1 S1 κ, Weak N0 e S e1 S1 ∧ S1[l]? = some (o .busy) ∧ SubOk κ (S1.set l (o .ready)) S' ∧ κ.take N0 = List.range N0
 | _ => fun _ _ => False
def asnQ (l : Nat) (o : LoopState → SObj) (B : Env → Store → Prop) : AX → Env → Store → Prop
 | .norm => fun e S => S[l]? = some (o .ready) ∧ B e (S.set l (o .busy))
 | _ => fun _ _ => False
theorem loop_turn {w : World} {g : Gh} {S : Store} {l b D : Nat} {fn : FuncId} {es : List AV} {ps : Array Tmp} {asn bdy : Code} {st : LoopState} (hw : WF w g S) (hl : S[l]? = some (.loop b D fn es ps asn bdy st)) :
  ∃ tm, w.heap[b]? = some (.loop { state := st, pending := none, fn, tmps := tm, params := ps, assign := asn, body := bdy, defers := D }) ∧ tm.size = es.length ∧ (∀ (j : Nat) u x, es[j]? = some u → tm[j]? = some x → Rel w g u x) ∧
   ∀ st', WF (w.putObj b (.loop { state := st', pending := none, fn, tmps := tm, params := ps, assign := asn, body := bdy, defers := D })) g (S.set l (.loop b D fn es ps asn bdy st')) ∧
    Evo w g (w.putObj b (.loop { state := st', pending := none, fn, tmps := tm, params := ps, assign := asn, body := bdy, defers := D })) g := by
 obtain ⟨b1, b2, b3, rfl, tm, b5, b6, b7⟩ := hw.obj _ _ hl
 refine ⟨tm, b5, b6, b7, fun st' => ?_⟩
 refine hw.put (o := .loop (g.pl l) D fn es ps asn bdy st') (List.getElem?_eq_some_iff.1 hl).1 b2 b3 ?_
 have hle := Le.setObj (w := w) b3 (.loop { state := st', pending := none, fn, tmps := tm, params := ps, assign := asn, body := bdy, defers := D })
 have hlt := (Array.getElem?_eq_some_iff.1 b5).1
 exact ⟨b1, b2, b3, rfl, tm, by simp [hlt], b6, fun j u x hu hx => (b7 j u x hu hx).le hle⟩
theorem AYB.of_wp {b D : Nat} {fn : FuncId} {es args : List AV} {ps : Array Tmp} {asn bdy : Code} {S S' : Store} (pf rf : List FuncId) (l : Nat) (hl : S[l]? = some (.loop b D fn es ps asn bdy .ready)) (hlen : args.length = ps.size) (hps : ∀ p ∈ ps.toList, p < es.length)
  (hm : P.follows .mixedOrders = true) (hoa : codeOk P pf rf es.length asn = true) (hra : noRF asn = true) (B : Env → Store → Prop)
  (hB : ∀ (w0 : World) (g0 : Gh) (e : Env) (T : Store) (a : Act) (w : World), g0.nid = S.length → Conc es.length w0 g0 e T a w → B e T → bdy.wpIn (wR (some b)) 0 P (toQ es.length w0 g0 (bdyQ S.length l (.loop b D fn es ps asn bdy) S')) a w)
  (h : AW P pf rf S.length (eraseC asn) (asnQ l (.loop b D fn es ps asn bdy) B) (putE (argEnv es) ps.toList args) S) : AYB P b args S (.bo true) S' := by
 intro w g cargs hw hargs
 obtain ⟨tm, b5, b6, b7, _⟩ := loop_turn hw hl
 have hsz : cargs.size = ps.size := by rw [hargs.1, hlen]
 have hfold : (ps.zip cargs).foldl (fun tmps (t, a) => tmps.setIfInBounds t a) tm = (ps.toList.zip cargs.toList).foldl (fun t p => t.setIfInBounds p.1 p.2) tm := by
  rw [← Array.foldl_toList, Array.toList_zip]
 refine ⟨fn, _, asn, bdy, run_yield b5 hsz, ?_⟩
 have hE0 : ERel w g (argEnv es) { tmps := tm, defers := [] } := fun t => by
  show Rel w g (es.getD t .junk) (tm.getD t undef)
  rw [List.getD_eq_getElem?_getD]
  cases ht : es[t]? with
  | none => exact .junk _ _
  | some u =>
   have hlt : t < tm.size := by rw [b6]; exact (List.getElem?_eq_some_iff.1 ht).1
   have h1 : tm[t]? = some tm[t] := Array.getElem?_eq_getElem hlt
   rw [Array.getD_eq_getD_getElem?, h1]
   exact b7 t u _ ht h1
 obtain ⟨hE1, hsz1⟩ := putE_rel ps.toList args cargs.toList (argEnv es) { tmps := tm, defers := [] } (by simpa using hlen) (by simpa using hsz) (fun j u x hu hx => hargs.2 j u x hu (by simpa using hx)) (fun p hp => by show p < tm.size; rw [b6]; exact hps p hp) hE0
 refine roundIn_of_wpIn (F := Fence.wide) (n := 0) trivial ?_
 simp only at hE1 hsz1
 rw [← hfold] at hE1 hsz1
 have hc : Conc es.length w g (putE (argEnv es) ps.toList args) S { tmps := (ps.zip cargs).foldl (fun tmps (t, a) => tmps.setIfInBounds t a) tm, defers := [] } w := ⟨hsz1.trans b6, trivial, g, hw, hE1, .none (Evo.refl w g)⟩
 have ha := AW_ok (some b) (.inr hra) hm hw.nid _ _ S _ w hoa hc h
 refine Go.wpIn_mono (F := Fence.wide.inRound b) ha ?_
 intro ex a1 w1 hq
 cases ex with
 | normal =>
  obtain ⟨e1, S1, ⟨c1, _, g1, c2, c3, c4⟩, hl1, hbd⟩ := hq
  obtain ⟨tm1, d5, _, _, d8⟩ := loop_turn c2 hl1
  obtain ⟨d9, d10⟩ := d8 .busy
  refine ⟨_, run_beginRound d5 rfl, ?_⟩
  have hc1 : Conc es.length w g e1 (S1.set l (.loop b D fn es ps asn bdy .busy)) a1 (w1.putObj b (.loop { state := .busy, pending := none, fn, tmps := tm1, params := ps, assign := asn, body := bdy, defers := D })) := ⟨c1, trivial, g1, d9, fun t => (c3 t).le d10.toLe, c4.trans d10⟩
  have hb := hB _ _ _ _ _ _ hw.nid hc1 hbd
  refine Go.wpIn_mono (F := Fence.wide.inRound b) hb ?_
  intro ex2 a2 w2 hq2
  cases ex2 with
  | normal =>
   obtain ⟨e2, S2, hc2, e3, S3, κ, k0, k1, k2, k3⟩ := hq2
   obtain ⟨_, _, g3, m1, m2, m3⟩ := k0 es.length w g a2 w2 hw.nid hc2
   obtain ⟨tm3, n1, _, _, n4⟩ := loop_turn m1 k1
   obtain ⟨n5, n6⟩ := n4 .ready
   refine ⟨_, _, run_endRound none n1, .bool true, g3.sub κ, rfl, n5.sub k2, .bo _ _, ?_⟩
   exact (m3.toEvo.trans n6).sub k2.nodup (k2.lt n5) (by rw [hw.nid]; exact k3)
  | exit i => obtain ⟨_, _, _, q⟩ := hq2; exact q.elim
  | ret => obtain ⟨_, _, _, q⟩ := hq2; exact q.elim
  | _ => exact hq2.elim
 | exit i => obtain ⟨_, _, _, q⟩ := hq; exact q.elim
 | ret => obtain ⟨_, _, _, q⟩ := hq; exact q.elim
 | _ => exact hq.elim
end
end Go.Proofs.YtleljbiejeofgaaGreatDoor.Pe
end
