/- A part. -/
import Derived.Test.YtldohjjoicmfpaaGreatDoorKr8
set_option linter.unusedSectionVars false
set_option linter.unusedVariables false
set_option linter.unusedSimpArgs false
namespace Go.Proofs.YtldohjjoicmfpaaGreatDoor
section
section
open Go.RowKit Dm
section
variable {S : Nat → Prop} {w : World} {g : Nat} {d : Dk}
theorem Wb {l : List Int} (h : (beginD d l).1 = 0) : l.all kn = true := by
  unfold beginD struck at h;split at h
  · cases h
  split at h
  · cases h
  · simp only at h
    split at h
    · assumption
    · cases h
theorem Kp.lit1 (w : World) (t : TypeId) (x : Int) : Kp (w.alloc (.cells #[.int .i64 x] t)) (.slice (some ⟨w.heap.size, 0, none⟩) 1 1) [x] :=
  ⟨_, 1, rfl, Nat.le_refl _, fun _ => ⟨w.heap.size, 0, rfl, fun j hj => by
    obtain rfl : j = 0 := by simpa using hj
    rw [Nat.zero_add, cell_of_row _ _ 0 _ _ _ (heap_alloc_new w _)];rfl⟩⟩
theorem VU {n m : Nat} (h : g < w.heap.size) : ∀ b, bl (.slice (some ⟨w.heap.size, 0, none⟩) n (m + 1)) = some b → b ≠ g := fun b hb => by
  have : w.heap.size = b := Option.some.inj hb;omega
set_option maxRecDepth 100000 in
set_option maxHeartbeats 1000000 in
theorem Zc3 (h : Am w S g d) (ho : Ok d) (hS : ∀ b, w.heap.size ≤ b → S b) (f : Int) :
    Calls Tryz.prog 73 #[.pointer (some ⟨g, 0, none⟩), .int .i64 f] w fun e w' => e = .returned (.int .i64 (flushD d f).1) ∧ Am w' S g (flushD d f).2 ∧ Fr S w w' := by
  have hgS := Veil.mk (show ∀ b, b = g → S b from fun b hb => by rw [hb]; exact h.at')
  have HD := Veil.mk (h.alloc (.cells #[.int .i64 f] 3));have HO := Veil.mk ho;have Hne := Veil.mk (VU (n := 1) (m := 0) h.lt);have Hgl := Veil.mk h.lt;have HKl := Veil.mk (Kp.lit1 w 3 f);have HO1 := Veil.mk (M6 ho [f]);have hz := Wb (d := d) (l := [f]);have hF : flushD d f = (if (beginD d [f]).1 ≠ 0 then beginD d [f] else if 0 < (beginD d [f]).2.lost then (18, { (beginD d [f]).2 with lost := (beginD d [f]).2.lost - 1 }) else (0, { (beginD d [f]).2 with fs := upd (beginD d [f]).2.fs f.toNat ⟨((beginD d [f]).2.fs f.toNat).data, ((beginD d [f]).2.fs f.toNat).data.length⟩ })) := rfl
  have hB := Wa HD.out ho (.slice (some ⟨w.heap.size, 0, none⟩) 1 1) [f] HKl.out Hne.out (by show 1 ≤ 1000; omega)
  obtain ⟨e1, D1, hbe⟩ : ∃ e1 D1, beginD d [f] = (e1, D1) := ⟨_, _, rfl⟩
  rw [hbe] at hB hF HO1 hz;simp only at hB hF HO1 hz
  have HF := Veil.mk hF;have HB := Veil.mk hB;clear hF hB h ho HD HKl hbe;by_cases h0 : e1 = 0
  · subst h0
    have hkf : kn f = true := by simpa using hz rfl
    obtain ⟨n, rfl, hn⟩ := Kv hkf;clear hz hkf;by_cases hl : 0 < D1.lost
    · have HF2 : Veil (flushD d (n : Int) = (18, { D1 with lost := D1.lost - 1 })) := ⟨by rw [HF.out, if_neg (by simp), if_pos hl]⟩
      have hll := HO1.out.lost;go_enter Tryz.func73, Tryz.ntmps73
      go_wp2_with ((go_at_call 132
                    refine HB.out.mono ?_
                    rintro e w1 ⟨rfl, HD1, HF1⟩
                    have c17 := HD1.cLost;have f17 := HD1.free 17;have HD2 : Veil (∀ q : Int, q = (D1.lost : Int) - 1 → Am (w1.setCell ⟨g, 17, none⟩ (.int .i64 q)) S g { D1 with lost := D1.lost - 1 }) := ⟨fun q hq => by
                      rw [show q = ((D1.lost - 1 : Nat) : Int) from by omega]; exact HD1.setLost (D1.lost - 1)⟩
                    have HF1 := Veil.mk ((Fr.alloc (S := S) w (.cells #[.int .i64 (n : Int)] 3)).trans (HF1.more hgS.out));clear HD1))
      go_ret
      refine ⟨?_, ?_, HF1.out.trans (Fr.setCell (p := ⟨g, 17, none⟩) (hgS.out g rfl) _)⟩
      · rw [HF2.out]; rfl
      · rw [HF2.out]; exact HD2.out _ (by omega)
    · have HF2 : Veil (flushD d (n : Int) = (0, { D1 with fs := upd D1.fs n ⟨(D1.fs n).data, (D1.fs n).data.length⟩ })) := ⟨by rw [HF.out, if_neg (by simp), if_neg hl]; rfl⟩
      have hn8 : (n : Int) < 8 := by omega
      go_enter Tryz.func73, Tryz.ntmps73
      go_wp2_with ((go_at_call 132
                    refine HB.out.mono ?_
                    rintro e w1 ⟨rfl, HD1, HF1⟩
                    have c17 := HD1.cLost;obtain ⟨A, c, cn, hc⟩ := HD1.cLen n hn _ rfl;have cdu := HD1.cDur n hn;have fdu := HD1.free (n * 2 + 1);have HD2 := Veil.mk ((HD1.drewN 1).setDur n hn (D1.fs n).data.length);have HF1 := Veil.mk ((Fr.alloc (S := S) w (.cells #[.int .i64 (n : Int)] 3)).trans (HF1.more hgS.out));clear HD1))
      refine wp_region_still_tail 14 (by kernel_rfl) (by kernel_rfl) ?_
      simp only [List.take_succ_cons, List.take_zero, List.drop_succ_cons, List.drop_zero];repeat still_step
      refine wpStill_nil ?_
      change wpList _ _ _ _ _ w1.drew;go_wp2
      go_ret
      refine ⟨?_, ?_, HF1.out.trans ((Fr.drewN w1 1).trans (Fr.setCell (p := ⟨g, n * 2 + 1, none⟩) (hgS.out g rfl) _))⟩
      · rw [HF2.out]; rfl
      · rw [HF2.out]; exact HD2.out
  · have HF2 : Veil (flushD d f = (e1, D1)) := ⟨by rw [HF.out, if_pos h0]⟩
    clear hz;have h0' : (e1 == 0) = false := beq_false_of_ne h0;go_enter Tryz.func73, Tryz.ntmps73
    go_wp2_with ((go_at_call 132
                  refine HB.out.mono ?_
                  rintro e w1 ⟨rfl, HD1, HF1⟩
                  have HD1 := Veil.mk HD1;have HF1 := Veil.mk ((Fr.alloc (S := S) w (.cells #[.int .i64 f] 3)).trans (HF1.more hgS.out))))
    go_ret
    refine ⟨?_, ?_, HF1.out⟩
    · rw [HF2.out]; rfl
    · rw [HF2.out]; exact HD1.out
end
end
end
section
section
open Go.RowKit Dm
section
variable {S : Nat → Prop} {w : World} {g : Nat} {d : Dk}
set_option maxRecDepth 100000 in
set_option maxHeartbeats 1000000 in
theorem Zef (h : Am w S g d) (ho : Ok d) (hS : ∀ b, w.heap.size ≤ b → S b) (f m : Int) :
    Calls Tryz.prog 71 #[.pointer (some ⟨g, 0, none⟩), .int .i64 f, .int .i64 m] w fun e w' => e = .returned (.int .i64 (cutD d f m).1) ∧ Am w' S g (cutD d f m).2 ∧ Fr S w w' := by
  have hgS := Veil.mk (show ∀ b, b = g → S b from fun b hb => by rw [hb]; exact h.at')
  have HD := Veil.mk (h.alloc (.cells #[.int .i64 f] 3));have Hne := Veil.mk (VU (n := 1) (m := 0) h.lt);have HKl := Veil.mk (Kp.lit1 w 3 f);have HO1 := Veil.mk (M6 ho [f]);have hz := Wb (d := d) (l := [f]);have hF : cutD d f m = (if (beginD d [f]).1 ≠ 0 then beginD d [f] else if m < 0 ∨ (size (beginD d [f]).2 f : Int) < m then (1, (beginD d [f]).2) else (0, { (beginD d [f]).2 with fs := upd (beginD d [f]).2.fs f.toNat (((beginD d [f]).2.fs f.toNat).trunc m.toNat) })) := rfl
  have hB := Wa HD.out ho (.slice (some ⟨w.heap.size, 0, none⟩) 1 1) [f] HKl.out Hne.out (by show 1 ≤ 1000; omega)
  obtain ⟨e1, D1, hbe⟩ : ∃ e1 D1, beginD d [f] = (e1, D1) := ⟨_, _, rfl⟩
  rw [hbe] at hB hF HO1 hz;simp only at hB hF HO1 hz
  have HF := Veil.mk hF;have HB := Veil.mk hB;clear hF hB h ho HD HKl hbe;by_cases h0 : e1 = 0
  · subst h0
    have hkf : kn f = true := by simpa using hz rfl
    obtain ⟨n, rfl, hn⟩ := Kv hkf;clear hz;have hn8 : (n : Int) < 8 := by omega
    have hsz : size D1 (n : Int) = (D1.fs n).data.length := by unfold size; rw [hkf]; rfl
    rw [hsz] at HF;have Hsz := Veil.mk hsz; clear hsz hkf;by_cases hm0 : m < 0
    · have HF2 : Veil (cutD d (n : Int) m = (1, D1)) := ⟨by rw [HF.out, if_neg (by simp), if_pos (.inl hm0)]⟩
      go_enter Tryz.func71, Tryz.ntmps71
      go_wp2_with ((go_at_call 132
                    refine HB.out.mono ?_
                    rintro e w1 ⟨rfl, HD1, HF1⟩
                    have HD1 := Veil.mk HD1;have HF1 := Veil.mk ((Fr.alloc (S := S) w (.cells #[.int .i64 (n : Int)] 3)).trans (HF1.more hgS.out))))
      go_ret
      refine ⟨?_, ?_, HF1.out⟩
      · rw [HF2.out]; rfl
      · rw [HF2.out]; exact HD1.out
    · obtain ⟨k, rfl⟩ := Int.eq_ofNat_of_zero_le (show 0 ≤ m by omega)
      by_cases hmk : (D1.fs n).data.length < k
      · have HF2 : Veil (cutD d (n : Int) (k : Int) = (1, D1)) := ⟨by rw [HF.out, if_neg (by simp), if_pos (.inr (by omega))]⟩
        have hmi : ((D1.fs n).data.length : Int) < (k : Int) := by omega
        go_enter Tryz.func71, Tryz.ntmps71
        go_wp2_with (first
          | (go_at_call 132
             refine HB.out.mono ?_
             rintro e w1 ⟨rfl, HD1, HF1⟩
             have HD1 := Veil.mk HD1;have HF1 := Veil.mk ((Fr.alloc (S := S) w (.cells #[.int .i64 (n : Int)] 3)).trans (HF1.more hgS.out)))
          | (go_at_call 133
             refine (NP HD1.out _).mono ?_
             rintro e w2 ⟨rfl, rfl⟩
             rw [Hsz.out]))
        go_ret
        refine ⟨?_, ?_, HF1.out⟩
        · rw [HF2.out]; rfl
        · rw [HF2.out]; exact HD1.out
      · have HF2 : Veil (cutD d (n : Int) (k : Int) = (0, { D1 with fs := upd D1.fs n ((D1.fs n).trunc k) })) := ⟨by rw [HF.out, if_neg (by simp), if_neg (by omega)]; rfl⟩
        have hmi : ¬ ((D1.fs n).data.length : Int) < (k : Int) := by omega
        have Hkl : Veil (k ≤ (D1.fs n).data.length) := ⟨by omega⟩
        clear hmk;go_enter Tryz.func71, Tryz.ntmps71
        go_wp2_with (first
          | (go_at_call 132
             refine HB.out.mono ?_
             rintro e w1 ⟨rfl, HD1, HF1⟩
             have HD1 := Veil.mk HD1;have HF1 := Veil.mk ((Fr.alloc (S := S) w (.cells #[.int .i64 (n : Int)] 3)).trans (HF1.more hgS.out)))
          | (go_at_call 133
             refine (NP HD1.out _).mono ?_
             rintro e w2 ⟨rfl, rfl⟩
             rw [Hsz.out])
          | (go_at_call 56
             refine (NB HD1.out n hn k _ Hkl.out rfl).mono ?_
             rintro e w2 ⟨rfl, HD2, HF2'⟩
             have HD2 := Veil.mk HD2;have HF1 := Veil.mk (HF1.out.trans (HF2'.more hgS.out))))
        go_ret
        refine ⟨?_, ?_, HF1.out⟩
        · rw [HF2.out]; rfl
        · rw [HF2.out]; exact HD2.out
  · have HF2 : Veil (cutD d f m = (e1, D1)) := ⟨by rw [HF.out, if_pos h0]⟩
    clear hz;have h0' : (e1 == 0) = false := beq_false_of_ne h0;go_enter Tryz.func71, Tryz.ntmps71
    go_wp2_with ((go_at_call 132
                  refine HB.out.mono ?_
                  rintro e w1 ⟨rfl, HD1, HF1⟩
                  have HD1 := Veil.mk HD1;have HF1 := Veil.mk ((Fr.alloc (S := S) w (.cells #[.int .i64 f] 3)).trans (HF1.more hgS.out))))
    go_ret
    refine ⟨?_, ?_, HF1.out⟩
    · rw [HF2.out]; rfl
    · rw [HF2.out]; exact HD1.out
end
theorem Am.fresh (w : World) (S : Nat → Prop) (hS : ∀ b, w.heap.size ≤ b → S b) (cs : Array Value) (hc : cs = (List.replicate 8 [Value.slice none 0 0, .int .i64 0]).flatten.toArray ++ #[.bool false, .int .i64 0, .int .i64 0, .slice none 0 0]) :
    Am (w.alloc (.cells cs 91)) S w.heap.size dk0 := by
  subst hc;refine ⟨fun _ => .slice none 0 0, .slice none 0 0, World.rowIs_alloc w _ _ (Dr (fun _ => .slice none 0 0) (.slice none 0 0) dk0) fun i hi => ?_, hS _ (Nat.le_refl _), fun i _ => BC.nil _, fun i b _ hb => (by cases hb), fun i j b _ _ _ hb => (by cases hb), Kp.nil _, fun b hb => (by cases hb), fun i b _ hb => (by cases hb), fun b hb => (by cases hb)⟩
  have hi : i < 20 := hi;rcases i with _ | _ | _ | _ | _ | _ | _ | _ | _ | _ | _ | _ | _ | _ | _ | _ | _ | _ | _ | _ | i
  all_goals first | rfl | omega
set_option maxRecDepth 100000 in
theorem Zb2 (w : World) (S : Nat → Prop) (hS : ∀ b, w.heap.size ≤ b → S b) :
    Calls Tryz.prog 7 #[] w fun e w' => ∃ g, e = .returned (.pointer (some ⟨g, 0, none⟩)) ∧ Am w' S g dk0 ∧ Fr S w w' ∧ g = w.heap.size := by
  have H := Veil.mk (Am.fresh w S hS _ rfl);go_enter Tryz.func7, Tryz.ntmps7
  go_wp2
  go_ret
  exact ⟨_, rfl, H.out, Fr.alloc _ _, rfl⟩
end
end
section
section
open Go.RowKit Dm
section
variable {S : Nat → Prop} {w : World} {g : Nat} {d : Dk}
end
end
end
section
section
open Go.RowKit Dm
structure Copied (w wr : World) (vs : Nat → Value) (kv : Value) (d : Dk) (k : Nat) (vs' : Nat → Value) : Prop where
  row : wr.rowIs w.heap.size 91 20 (Dr (fun i => if i < k then vs' i else vs i) kv d)
  grown : w.grownBy wr none
  fil : ∀ i, i < k → BC wr (vs' i) (d.fs i).data
  own : ∀ i b, i < k → bl (vs' i) = some b → w.heap.size < b ∧ b < wr.heap.size
  apart : ∀ i j b, i < k → j < k → i ≠ j → bl (vs' i) = some b → bl (vs' j) ≠ some b
section
variable {S : Nat → Prop} {w : World} {g : Nat} {d : Dk}
end
end
end
section
namespace Pe
open Tryz
open Go Go.RowKit Dm
variable [Tab]
section
variable {P : Program} {w w' : World} {g : Gh}
theorem ZdM {S : Nat → Prop} {p : Nat} {d : Dk} (h : Am w S p d) : Am w (fun b => S b ∧ b < w.heap.size) p d := by
  obtain ⟨vs, kv, hr, h⟩ := h;exact ⟨vs, kv, hr, ⟨h.head, hr.lt⟩, h.fil, fun i b hi hb => ⟨⟨(h.own i b hi hb).1, (h.fil i hi).block b hb⟩, (h.own i b hi hb).2⟩, h.apart, h.kp, fun b hb => ⟨⟨(h.kown b hb).1, h.klt b hb⟩, (h.kown b hb).2⟩, h.kapart, h.klt⟩
abbrev XD (d : Dk) : SObj := .ext fun w p S => Am w S p d ∧ Ok d
theorem AC.ofFr {f : FuncId} {args : List AV} {v : AV} {X X' : World → Nat → (Nat → Prop) → Prop} (hcan : Iy P f = true)
    (hX : ∀ w p (S T : Nat → Prop), X w p S → (∀ b, S b → T b) → X w p T)
    (hX' : ∀ (w w' : World) p (S : Nat → Prop), X' w p S → (∀ b, S b ∧ b < w.heap.size → w'.heap[b]? = w.heap[b]?) → X' w' p (fun b => S b ∧ b < w.heap.size))
    (h : ∀ (w : World) (g : Gh) (S : Nat → Prop) (cargs : Array Value), De w g args cargs → g.buf 0 = false → 0 < g.nid → g.G (g.pl 0) = 0 → S (g.pl 0) → (∀ b, w.heap.size ≤ b → S b) → X w (g.pl 0) S →
      Calls P f cargs w fun r w' => ∃ cv, r = .returned cv ∧ (∀ g', Rel w' g' v cv) ∧ X' w' (g.pl 0) S ∧ Fr S w w') : AC P f args [.ext X] v [.ext X'] := by
  refine ⟨hcan, fun w g cargs hw hargs => ?_⟩
  obtain ⟨ho1, ho2, ho3, ho4⟩ := hw.obj 0 _ rfl;have hn : g.nid = 1 := hw.nid;have hlt := hw.lt 0;refine (h w g (fun b => g.own 0 b ∨ w.heap.size ≤ b) cargs hargs ho1 (by omega) (ho3 _ ho2) (.inl ho2) (fun b hb => .inr hb) (hX _ _ _ _ (ho4 w (fun _ _ => rfl)) fun b hb => .inl hb)).mono ?_
  rintro r w' ⟨cv, rfl, h1, h2, h3⟩
  have hb : ∀ b, b < w.heap.size → ¬ g.own 0 b → w'.heap[b]? = w.heap[b]? := fun b hb hno => h3.block b hb (fun e => e.elim hno (fun e => by omega))
  have hsz := h3.size;generalize hg' : ({ g with own := fun l b => if l = 0 then (g.own 0 b ∨ w.heap.size ≤ b) ∧ b < w'.heap.size else g.own l b, G := fun b => if b < w.heap.size then g.G b else 0 } : Gh) = g'
  have eG : ∀ b, b < w.heap.size → g'.G b = g.G b := fun b hb => by rw [← hg']; exact if_pos hb
  have eG0 : ∀ b, ¬ b < w.heap.size → g'.G b = 0 := fun b hb => by rw [← hg']; exact if_neg hb
  have eo : g'.own 0 = fun b => (g.own 0 b ∨ w.heap.size ≤ b) ∧ b < w'.heap.size := by rw [← hg']; rfl
  have epl : g'.pl = g.pl := by rw [← hg']
  have ebuf : g'.buf = g.buf := by rw [← hg']
  have enid : g'.nid = g.nid := by rw [← hg']
  have ewm : g'.wm = g.wm := by rw [← hg']
  have ecap : g'.cap = g.cap := by rw [← hg']
  clear hg';have hcl : ∀ b o u, w.cell? ⟨b, o, none⟩ = some u → b < w.heap.size := fun b o u hu => World.block_lt_of_cell? w _ hu
  have hle : Le w g w' g' := ⟨fun b o u hG hc => by
      rw [World.cell?_of_block (hb b (hcl b o u hc) (fun e => by rw [ho3 b e] at hG; omega))]; exact hc,
    fun b o u hG hc => by rw [eG b (hcl b o u hc)]; exact hG, by rw [enid]; exact Nat.le_refl _, fun l _ => ⟨by rw [ebuf], .inl ⟨by rw [epl], by rw [ewm], by rw [ecap]⟩⟩,
    fun b me c hG hm => by
      have hlt' := (Array.getElem?_eq_some_iff.1 hm).1
      have hno : ¬ g.own 0 b := fun e => by rw [ho3 b e] at hG; omega
      exact ⟨by rw [eG b hlt']; exact hG, (hb b hlt' hno).trans hm⟩⟩
  refine ⟨cv, g', rfl, ?_, h1 g', ?_⟩
  · refine hw.touch (l := 0) (by simp) hle enid (fun k hk hk' => by omega) (fun b hbo => ?_) hsz (fun b hb _ => eG b hb) hb ?_
    · rw [eo] at hbo
      rcases hbo with ⟨h | h, h'⟩
      · exact .inl h
      · exact .inr ⟨h, h'⟩
    · refine ⟨by rw [ebuf]; exact ho1, ?_, ?_, ?_⟩
      · rw [eo, epl]; exact ⟨.inl ho2, by have := hlt _ (by omega) ho2; omega⟩
      · intro b hbo
        rw [eo] at hbo;by_cases hlt' : b < w.heap.size
        · rw [eG b hlt']; exact ho3 b (hbo.1.elim id fun e => by omega)
        · exact eG0 b hlt'
      · intro w'' hs
        rw [eo, epl];rw [eo] at hs;exact hX' w' w'' _ _ h2 hs
  · refine ⟨hle, h3.os, h3.tape, h3.output, hsz, fun b hlt' hno => hb b hlt' (hno 0 (by omega)), fun l b hl hbo hlt' => ?_, fun b hlt' _ => eG b hlt'⟩
    rw [enid] at hl;obtain rfl : l = 0 := by omega
    rw [eo] at hbo;exact ⟨hl, hbo.1.elim id fun e => by omega⟩
theorem AC.newFr {f : FuncId} {args : List AV} {S0 : Ae} {X : World → Nat → (Nat → Prop) → Prop} (hcan : Iy P f = true)
    (hX' : ∀ (w w' : World) p (S : Nat → Prop), X w p S → (∀ b, S b ∧ b < w.heap.size → w'.heap[b]? = w.heap[b]?) → X w' p (fun b => S b ∧ b < w.heap.size))
    (hp : ∀ w p S, X w p S → S p ∧ p < w.heap.size)
    (h : ∀ (w : World) (g : Gh) (cargs : Array Value), WF w g S0 → De w g args cargs →
      Calls P f cargs w fun r w' => ∃ p, r = .returned (.pointer (some ⟨p, 0, none⟩)) ∧ X w' p (fun b => w.heap.size ≤ b) ∧ Fr (fun b => w.heap.size ≤ b) w w') : AC P f args S0 (.ptr S0.length 0) (S0 ++ [.ext X]) := by
  refine ⟨hcan, fun w g cargs hw hargs => (h w g cargs hw hargs).mono ?_⟩
  rintro r w' ⟨p, rfl, h2, h3⟩
  have hb : ∀ b, b < w.heap.size → w'.heap[b]? = w.heap[b]? := fun b hb => h3.block b hb (by omega)
  have hsz := h3.size;have hn : g.nid = S0.length := hw.nid;have hpp := hp _ _ _ h2;generalize hg' : (⟨fun b => if b < w.heap.size then g.G b else 0, fun l => if l = g.nid then p else g.pl l, fun l b => if l = g.nid then w.heap.size ≤ b ∧ b < w'.heap.size else g.own l b, g.nid + 1, fun l => if l = g.nid then false else g.buf l, g.wm, g.cap⟩ : Gh) = g'
  have eG : ∀ b, b < w.heap.size → g'.G b = g.G b := fun b hb => by rw [← hg']; exact if_pos hb
  have eG0 : ∀ b, ¬ b < w.heap.size → g'.G b = 0 := fun b hb => by rw [← hg']; exact if_neg hb
  have eo : g'.own g.nid = fun b => w.heap.size ≤ b ∧ b < w'.heap.size := by rw [← hg']; funext b; exact if_pos rfl
  have eo' : ∀ l, l ≠ g.nid → g'.own l = g.own l := fun l hl => by rw [← hg']; funext b; exact if_neg hl
  have epl : g'.pl g.nid = p := by rw [← hg']; exact if_pos rfl
  have epl' : ∀ l, l ≠ g.nid → g'.pl l = g.pl l := fun l hl => by rw [← hg']; exact if_neg hl
  have ebuf : g'.buf g.nid = false := by rw [← hg']; exact if_pos rfl
  have ebuf' : ∀ l, l ≠ g.nid → g'.buf l = g.buf l := fun l hl => by rw [← hg']; exact if_neg hl
  have enid : g'.nid = g.nid + 1 := by rw [← hg']
  have ewm : g'.wm = g.wm := by rw [← hg']
  have ecap : g'.cap = g.cap := by rw [← hg']
  clear hg';have hcl : ∀ b o u, w.cell? ⟨b, o, none⟩ = some u → b < w.heap.size := fun b o u hu => World.block_lt_of_cell? w _ hu
  have hle : Le w g w' g' := ⟨fun b o u hG hc => by rw [World.cell?_of_block (hb b (hcl b o u hc))]; exact hc,
    fun b o u hG hc => by rw [eG b (hcl b o u hc)]; exact hG, by rw [enid]; omega, fun l hl => ⟨ebuf' l (by omega), .inl ⟨epl' l (by omega), by rw [ewm], by rw [ecap]⟩⟩,
    fun b me c hG hm => by
      have hlt' := (Array.getElem?_eq_some_iff.1 hm).1
      exact ⟨by rw [eG b hlt']; exact hG, (hb b hlt').trans hm⟩⟩
  refine ⟨_, g', rfl, ⟨by rw [enid, hn, List.length_append]; rfl, fun l o hl => ?_, fun l l' b hl hl' ho ho' => ?_, fun l b hl ho => ?_, hw.tab.le hle⟩, ?_, ?_⟩
  · by_cases hln : l = g.nid
    · subst hln
      rw [List.getElem?_append_right (by omega), hn, Nat.sub_self] at hl
      cases hl
      refine ⟨ebuf, ?_, ?_, ?_⟩
      · rw [eo, epl]; exact hpp
      · intro b hbo
        rw [eo] at hbo;exact eG0 b (by omega)
      · intro w'' hs
        rw [eo, epl];rw [eo] at hs;exact hX' w' w'' _ _ h2 hs
    · have hlt : l < g.nid := by have := (List.getElem?_eq_some_iff.1 hl).1; rw [List.length_append] at this; simp at this; omega
      rw [List.getElem?_append_left (by omega)] at hl
      exact (hw.obj l o hl).keep hle (epl' l hln) (ebuf' l hln) (by rw [ewm]) (by rw [ecap]) (eo' l hln) (fun b hbo => eG b (hw.lt l b hlt hbo)) (fun b hbo => hb b (hw.lt l b hlt hbo))
  · rw [enid] at hl hl'
    by_cases h1 : l = g.nid <;> by_cases h2 : l' = g.nid
    · rw [h1, h2]
    · subst h1; rw [eo] at ho; rw [eo' l' h2] at ho'; have := hw.lt l' b (by omega) ho'; omega
    · subst h2; rw [eo] at ho'; rw [eo' l h1] at ho; have := hw.lt l b (by omega) ho; omega
    · rw [eo' l h1] at ho; rw [eo' l' h2] at ho'; exact hw.disj l l' b (by omega) (by omega) ho ho'
  · rw [enid] at hl
    by_cases h1 : l = g.nid
    · subst h1; rw [eo] at ho; exact ho.2
    · rw [eo' l h1] at ho; have := hw.lt l b (by omega) ho; omega
  · have := Rel.ptr (w := w') g' g.nid 0 (by omega) ebuf
    rw [epl, hn] at this;exact this
  · refine ⟨hle, h3.os, h3.tape, h3.output, hsz, fun b hlt' _ => hb b hlt', fun l b hl ho hlt' => ?_, fun b hlt' _ => eG b hlt'⟩
    rw [enid] at hl;by_cases h1 : l = g.nid
    · subst h1; rw [eo] at ho; omega
    · rw [eo' l h1] at ho; exact ⟨by omega, ho⟩
end
theorem Gx (d : Dk) : ∀ w p (S T : Nat → Prop), (Am w S p d ∧ Ok d) → (∀ b, S b → T b) → Am w T p d ∧ Ok d := fun _ _ _ _ h hs => ⟨h.1.more hs, h.2⟩
theorem FU (d : Dk) : ∀ (w w' : World) p (S : Nat → Prop), (Am w S p d ∧ Ok d) → (∀ b, S b ∧ b < w.heap.size → w'.heap[b]? = w.heap[b]?) → Am w' (fun b => S b ∧ b < w.heap.size) p d ∧ Ok d :=
  fun _ _ _ _ h hs => ⟨(ZdM h.1).keep fun b hb _ => hs b hb, h.2⟩
theorem Gc {w : World} {g : Gh} {u : AV} {us : List AV} {cargs : Array Value} (h : De w g (u :: us) cargs) : ∃ (cv : Value) (cs : List Value), cargs = (cv :: cs).toArray ∧ Rel w g u cv ∧ De w g us cs.toArray := by
  obtain ⟨h1, h2⟩ := h;obtain ⟨l⟩ := cargs;cases l with
  | nil => simp at h1
  | cons cv cs => exact ⟨cv, cs, rfl, h2 0 u cv rfl rfl, by simpa using h1, fun j u v hu hv => h2 (j + 1) u v (by simpa using hu) (by simpa using hv)⟩
theorem Ga {w : World} {g : Gh} {u : AV} {us : List AV} {cs : List Value} (h : De w g (u :: us) cs.toArray) : ∃ (cv : Value) (cs' : List Value), cs = cv :: cs' ∧ Rel w g u cv ∧ De w g us cs'.toArray := by
  obtain ⟨cv, cs', e, h1, h2⟩ := Gc h;exact ⟨cv, cs', by simpa using e, h1, h2⟩
theorem Gb {w : World} {g : Gh} {cargs : Array Value} (h : De w g [] cargs) : cargs = #[] := by
  obtain ⟨h1, _⟩ := h;exact Array.eq_empty_of_size_eq_zero h1
theorem GH {w : World} {g : Gh} {l off : Nat} {cv : Value} (h : Rel w g (.ptr l off) cv) : cv = .pointer (some ⟨g.pl l, off, none⟩) := by cases h; rfl
theorem GI {w : World} {g : Gh} {k : IntKind} {n : Int} {cv : Value} (h : Rel w g (.it k n) cv) : cv = .int k n := by cases h; rfl
theorem ZaE {w : World} {g : Gh} {l : List UInt8} {cv : Value} (h : Rel w g (.st l) cv) : cv = .string ⟨l.toArray⟩ := by cases h; rfl
theorem ZaC {w : World} {g : Gh} {a b : AV} {x y : Value} (h : Rel w g a x) (h' : Rel w g b y) : Rel w g (.tup [a, b]) (.tuple #[x, y]) := by
  refine .tup _ _ _ rfl fun j u v hu hv => ?_
  match j with
  | 0 => cases hu; cases hv; exact h
  | 1 => cases hu; cases hv; exact h'
  | j + 2 => simp at hu
theorem N5 (w : World) (g : Gh) : Rel w g (.tup []) (.tuple #[]) := .tup _ _ _ rfl fun j u v hu => by simp at hu
abbrev ints (m : Mode) (ks : List Int) : AV := .sl m (ks.map (AV.it .i64))
theorem T7 (ks : List Int) : Av (ks.map (AV.it .i64)) = ks.map (AV.it .i64) := by
  induction ks with
  | nil => rfl
  | cons k ks ih => rw [List.map_cons, Av, List.flatMap_cons]; exact congrArg _ ih
theorem ZaH {w : World} {g : Gh} {m : Mode} {ks : List Int} {cv : Value} (h : Rel w g (ints m ks) cv) : Kp w cv ks ∧ (0 < ks.length → ∀ b, bl cv = some b → 0 < g.G b) := by
  cases h
  rename_i A c sz cu hcm hc hsz h1 hA hr hm
  rw [T7] at hA hr;rw [List.length_map] at hc hA;have key : ∀ j, j < ks.length → cu j = .int .i64 (ks.getD j 0) := fun j hj => by
    have := hr j (.it .i64 ks[j]) (by rw [List.getElem?_map, List.getElem?_eq_getElem hj]; rfl)
    rw [GI this, List.getD_eq_getElem?_getD, List.getElem?_eq_getElem hj]; rfl
  refine ⟨⟨A, c, by rw [List.length_map], hc, fun h0 => ?_⟩, fun h0 b hb => ?_⟩
  · obtain ⟨b, o, rfl, h⟩ := hA h0
    exact ⟨b, o, rfl, fun j hj => by rw [(h j (by simpa using hj)).2, key j hj]⟩
  · obtain ⟨b', o, rfl, h⟩ := hA h0
    obtain ⟨c, rfl⟩ := Nat.exists_eq_succ_of_ne_zero (show c ≠ 0 by omega)
    cases hb
    exact Nat.lt_of_le_of_lt (Nat.zero_le _) (h 0 h0).1
section
variable {d : Dk}
theorem Zee (d : Dk) (f : Int) (s : List UInt8) (hs : s.length ≤ 9223372036854775807) :
    AC prog 99 [.ptr 0 0, .it .i64 f, .st s] [XD d] (.it .i64 (appendD d f s).1) [XD (appendD d f s).2] := by
  refine AC.ofFr (by kernel_rfl) (Gx d) (FU _) fun w g S cargs hargs hbuf hn hG hSp hS hX => ?_
  obtain ⟨v0, c0, rfl, h0, hargs⟩ := Gc hargs;obtain ⟨v1, c1, rfl, h1, hargs⟩ := Ga hargs;obtain ⟨v2, c2, rfl, h2, hargs⟩ := Ga hargs;obtain rfl : c2 = [] := by simpa using Gb hargs
  obtain rfl := GH h0; obtain rfl := GI h1; obtain rfl := ZaE h2;refine (Zfd hX.1 hX.2 hS f ⟨s.toArray⟩ (by simpa [ByteArray.size] using hs)).mono fun r w' ⟨e, hD, hF⟩ => ?_
  exact ⟨_, e, fun g' => .it _ _ _, ⟨hD, Wk hX.2 _ _⟩, hF⟩
theorem Po (d : Dk) (f : Int) : AC prog 73 [.ptr 0 0, .it .i64 f] [XD d] (.it .i64 (flushD d f).1) [XD (flushD d f).2] := by
  refine AC.ofFr (by kernel_rfl) (Gx d) (FU _) fun w g S cargs hargs hbuf hn hG hSp hS hX => ?_
  obtain ⟨v0, c0, rfl, h0, hargs⟩ := Gc hargs;obtain ⟨v1, c1, rfl, h1, hargs⟩ := Ga hargs;obtain rfl : c1 = [] := by simpa using Gb hargs
  obtain rfl := GH h0; obtain rfl := GI h1;exact (Zc3 hX.1 hX.2 hS f).mono fun r w' ⟨e, hD, hF⟩ => ⟨_, e, fun g' => .it _ _ _, ⟨hD, flush_ok hX.2 _⟩, hF⟩
theorem U5 (d : Dk) (f n : Int) : AC prog 71 [.ptr 0 0, .it .i64 f, .it .i64 n] [XD d] (.it .i64 (cutD d f n).1) [XD (cutD d f n).2] := by
  refine AC.ofFr (by kernel_rfl) (Gx d) (FU _) fun w g S cargs hargs hbuf hn hG hSp hS hX => ?_
  obtain ⟨v0, c0, rfl, h0, hargs⟩ := Gc hargs;obtain ⟨v1, c1, rfl, h1, hargs⟩ := Ga hargs;obtain ⟨v2, c2, rfl, h2, hargs⟩ := Ga hargs;obtain rfl : c2 = [] := by simpa using Gb hargs
  obtain rfl := GH h0; obtain rfl := GI h1; obtain rfl := GI h2;exact (Zef hX.1 hX.2 hS f n).mono fun r w' ⟨e, hD, hF⟩ => ⟨_, e, fun g' => .it _ _ _, ⟨hD, Pp hX.2 _ _⟩, hF⟩
theorem Zed (d : Dk) (m : Mode) (ks : List Int) : AC prog 16 [.ptr 0 0, ints m ks] [XD d] (.tup []) [XD (crash d ks)] := by
  refine AC.ofFr (by kernel_rfl) (Gx d) (FU _) fun w g S cargs hargs hbuf hn hG hSp hS hX => ?_
  obtain ⟨v0, c0, rfl, h0, hargs⟩ := Gc hargs;obtain ⟨v1, c1, rfl, h1, hargs⟩ := Ga hargs;obtain rfl : c1 = [] := by simpa using Gb hargs
  obtain rfl := GH h0;obtain ⟨hk, hb⟩ := ZaH h1;exact (KL hX.1 hX.2 v1 ks hk (fun h b e hbe => by have := hb h b e; rw [hbe, hG] at this; omega)).mono fun r w' ⟨e, hD, hF⟩ => ⟨_, e, fun g' => N5 _ _, ⟨hD, crash_ok hX.2 _⟩, hF.more fun b e => by rw [e]; exact hSp⟩
theorem Zec (d : Dk) (n : Int) (hn : n ≤ 9223372036854775807) : AC prog 20 [.ptr 0 0, .it .i64 n] [XD d] (.tup []) [XD (lose d n)] := by
  refine AC.ofFr (by kernel_rfl) (Gx d) (FU _) fun w g S cargs hargs hbuf _ hG hSp hS hX => ?_
  obtain ⟨v0, c0, rfl, h0, hargs⟩ := Gc hargs;obtain ⟨v1, c1, rfl, h1, hargs⟩ := Ga hargs;obtain rfl : c1 = [] := by simpa using Gb hargs
  obtain rfl := GH h0; obtain rfl := GI h1;exact (Zcb hX.1 n hn).mono fun r w' ⟨e, hD, hF⟩ => ⟨_, e, fun g' => N5 _ _, ⟨hD, lose_ok hX.2 n hn⟩, hF.more fun b e => by rw [e]; exact hSp⟩
theorem Zd9 (d : Dk) : AC prog 18 [.ptr 0 0] [XD d] (.tup []) [XD (bring d)] := by
  refine AC.ofFr (by kernel_rfl) (Gx d) (FU _) fun w g S cargs hargs hbuf _ hG hSp hS hX => ?_
  obtain ⟨v0, c0, rfl, h0, hargs⟩ := Gc hargs;obtain rfl : c0 = [] := by simpa using Gb hargs
  obtain rfl := GH h0;exact (YP hX.1).mono fun r w' ⟨e, hD, hF⟩ => ⟨_, e, fun g' => N5 _ _, ⟨hD, bring_ok hX.2⟩, hF.more fun b e => by rw [e]; exact hSp⟩
theorem Zeb (d : Dk) (f : Int) : AC prog 69 [.ptr 0 0, .it .i64 f] [XD d] (.tup [.st (peek d f).1, .it .i64 (peek d f).2]) [XD d] := by
  refine AC.ofFr (by kernel_rfl) (Gx d) (FU _) fun w g S cargs hargs hbuf _ hG hSp hS hX => ?_
  obtain ⟨v0, c0, rfl, h0, hargs⟩ := Gc hargs;obtain ⟨v1, c1, rfl, h1, hargs⟩ := Ga hargs;obtain rfl : c1 = [] := by simpa using Gb hargs
  obtain rfl := GH h0; obtain rfl := GI h1;exact (ZaU hX.1 f).mono fun r w' ⟨e, e'⟩ => by subst e'; exact ⟨_, e, fun g' => ZaC (.st _ _) (.it _ _ _), hX, Fr.refl _ _⟩
theorem Zea (d : Dk) (f : Int) : AC prog 133 [.ptr 0 0, .it .i64 f] [XD d] (.it .i64 (size d f : Int)) [XD d] := by
  refine AC.ofFr (by kernel_rfl) (Gx d) (FU _) fun w g S cargs hargs hbuf _ hG hSp hS hX => ?_
  obtain ⟨v0, c0, rfl, h0, hargs⟩ := Gc hargs;obtain ⟨v1, c1, rfl, h1, hargs⟩ := Ga hargs;obtain rfl : c1 = [] := by simpa using Gb hargs
  obtain rfl := GH h0; obtain rfl := GI h1;exact (NP hX.1 f).mono fun r w' ⟨e, e'⟩ => by subst e'; exact ⟨_, e, fun g' => .it _ _ _, hX, Fr.refl _ _⟩
theorem U4 : AC prog 7 [] [] (.ptr 0 0) [XD dk0] := by
  refine AC.newFr (S0 := []) (by kernel_rfl) (FU _) (fun w p S h => ⟨h.1.at', h.1.lt⟩) fun w g cargs hw hargs => ?_
  obtain rfl := Gb hargs;exact (Zb2 w _ (fun b hb => hb)).mono fun r w' ⟨p, e, hD, hF, _⟩ => ⟨p, e, ⟨hD, dk0_ok⟩, hF⟩
end
end Pe
end
section
namespace Pe
open Tryz
open Go Co
variable [Tab]
set_option maxRecDepth 100000
abbrev Bn (l : List By) : AV := .sl .ro (l.map .st)
abbrev rd (x : R) : SObj := .cells [.st x.rest, .bo x.bad]
theorem JJ {n : Int} (h : 0 ≤ n) (h' : n < 256) : IntKind.u8.wrap n = n := by
 show n % 2 ^ 8 = n
 omega
theorem Kg {n : Nat} (h : n < 256) : (UInt8.ofNat n).toNat = n := by
 rw [UInt8.toNat_ofNat']; omega
theorem QZ (acc : By) (b : UInt8) : acc.map u8 ++ [AV.it .u8 (b.toNat : Int)] = (acc ++ [b]).map u8 := by simp [u8]
theorem Cf (n : Int) (h : n < 9223372036854775808) (h0 : -9223372036854775808 ≤ n) : AC prog 68 [.it .i64 n] [] (.st (Ah n)) [] := by
 refine Ai [] [] func68 ?_;by_cases hn : n < 0
 ·rw [show Ah n = [] from if_pos hn]
  refine run ?_;exact Ab
 obtain ⟨k, rfl⟩ := Int.eq_ofNat_of_zero_le (show 0 ≤ n by omega)
 rw [E9];refine run ?_;refine Eg (fun m e S => ∃ (acc : By) (j : Nat), e 0 = .it .i64 (j : Int) ∧ e 3 = .sl (.own 0) (acc.map u8) ∧ S = [.buf acc.length 5 1] ∧ acc ++ num j = num k ∧ j ≤ k ∧ acc.length + j ≤ k ∧ m = j) k _ _ (Ay.reserve 0 3 (es := []) (by rfl) 5 1) ⟨[], k, Ad, Ad, rfl, rfl, Nat.le_refl _, by simp, rfl⟩ ?_
 rintro q e S ⟨acc, q, s0, s3, rfl, hnum, hj, hacc, rfl⟩
 have hal : acc.length ≤ 8 := by
  have e1 := congrArg List.length hnum;have e2 := Jf 8 k (by omega)
  have e3 := Mq q;rw [List.length_append] at e1;omega
 by_cases hs : q < 128
 ·have hb : IntKind.u8.wrap (q : Int) = ((UInt8.ofNat q).toNat : Int) := by rw [JJ (by omega) (by omega), Kg (by omega)]
  have hsn := QZ acc (UInt8.ofNat q);rw [F7 hs] at hnum;refine Aa (A4 @s0 @s3 @hb @hsn) ?_;rw [← hnum];exact Ab
 ·have ht : (q : Int).tmod 128 = ((q % 128 : Nat) : Int) := by rw [Int.tmod_eq_emod_of_nonneg (by omega)]; omega
  have hd : (q : Int).tdiv 128 = ((q / 128 : Nat) : Int) := by rw [Int.tdiv_eq_ediv_of_nonneg (by omega)]; omega
  have hb : IntKind.u8.wrap (128 + ((q % 128 : Nat) : Int)) = ((UInt8.ofNat (128 + q % 128)).toNat : Int) := by rw [JJ (by omega) (by omega), Kg (by omega)]; omega
  rw [Ic hs] at hnum;refine Aa (A5 @s0 @s3 @ht @hd @hb) ?_;refine AG (q / 128) (by omega) ⟨acc ++ [UInt8.ofNat (128 + q % 128)], q / 128, Ad, by rw [← QZ]; exact Ad, by rw [List.length_append]; rfl, by rw [List.append_assoc]; exact hnum, by omega, by rw [List.length_append, List.length_singleton]; omega, rfl⟩
theorem CO (s : By) (h : s.length ≤ 140737488355328) : AC prog 33 [.st s] [] (.st (text s)) [] := by
 refine Ai [68] [] func33 ?_;have hl := Ak (s.length : Int) (by omega)
 refine run ?_;refine cp (Cf s.length (by omega) (by omega)) ?_
 rw [E9] at *;refine run ?_;exact Ab
theorem Mm (s : By) : AC prog 75 [.st s] [] (.ptr 0 0) [rd ⟨s, false⟩] := by
 refine Ai [] [] func75 ?_;refine run ?_;exact Aq [0] (by rfl) (EI 0 (by rfl) (by rfl)) (by rfl) (by rfl) (by rfl)
theorem Jr (x : R) : AC prog 134 [.ptr 0 0] [rd x] (.tup []) [rd Co.fail] := by
 refine Ai [] [] func134 ?_;refine run ?_;exact MO
theorem Ku (x : R) : AC prog 79 [.ptr 0 0] [rd x] (.it .i64 x.rest.length) [rd x] := by
 refine Ai [] [] func79 ?_;refine run ?_;exact Bj
theorem Jv (x : R) : AC prog 139 [.ptr 0 0] [rd x] (.bo (!x.bad && x.rest == [])) [rd x] := by
 refine Ai [] [] func139 ?_;obtain ⟨r, b⟩ := x;cases b
 ·refine run ?_
  exact Bj
 ·refine run ?_
  exact Bj
theorem JR (x : R) (n : Nat) (hn : n < 9223372036854775808) (hx : x.rest.length < 9223372036854775808) : AC prog 78 [.ptr 0 0, .it .i64 n] [rd x] (.st (x.take n).1) [rd (x.take n).2] := by
 refine Ai [] [] func78 ?_;obtain ⟨r, b⟩ := x;unfold R.take;cases b
 rotate_left
 ·rw [if_pos (.inl rfl)]
  refine run ?_;refine c1 0 (Jr ⟨r, true⟩) ?_;refine run ?_;exact Bj
 by_cases h : r.length < n
 ·rw [if_pos (.inr h)]
  refine run ?_;refine c1 0 (Jr ⟨r, false⟩) ?_;refine run ?_;exact Bj
 ·rw [if_neg (by simp; omega)]
  refine run ?_;exact Bj
set_option maxHeartbeats 3200000 in
theorem J5 (x : R) (hx : x.rest.length < 9223372036854775808) : AC prog 76 [.ptr 0 0] [rd x] (.it .i64 x.num.1) [rd x.num.2] := by
 refine Ai [] [] func76 ?_;refine run ?_;refine Bp (fun m e S => ∃ (i acc : Nat), e 0 = .ptr 0 0 ∧ e 3 = .it .i64 (acc : Int) ∧ e 4 = .it .i64 (i : Int) ∧ S = [rd x] ∧ i ≤ 9 ∧ i ≤ x.rest.length ∧ acc < 2 ^ (7 * i) ∧ Dw x.rest 0 0 = Dw (x.rest.drop i) i acc ∧ m = 9 - i) 9 ⟨0, 0, Ad, Ad, Ad, rfl, by omega, by omega, by simp, rfl, rfl⟩ ?_
 rintro m e S ⟨i, acc, s0, s3, s4, rfl, hi, hil, hacc, hrd, rfl⟩
 by_cases hlt : i < x.rest.length
 rotate_left
 ·have hnum : x.num = (0, Co.fail) := by unfold R.num; rw [hrd, List.drop_eq_nil_of_le (by omega)]; rfl
  rw [hnum];refine Aa (A3 @s0 @s3 @s4) ?_;refine c1 0 (Jr x) ?_;refine Aa (A3 @s0 @s3 @s4) ?_;exact Bj
 have hdr : x.rest.drop i = x.rest[i] :: x.rest.drop (i + 1) := List.drop_eq_getElem_cons hlt;have hg : x.rest[i]? = some x.rest[i] := List.getElem?_eq_getElem hlt
 generalize x.rest[i] = d at *;have hu : u8 d = .it .u8 (d.toNat : Int) := rfl;rw [hdr, Jc] at hrd;by_cases h9 : 9 ≤ i
 ·rw [if_pos h9] at hrd
  have hnum : x.num = (0, Co.fail) := by unfold R.num; rw [hrd]
  rw [hnum];refine Aa (A3 @s0 @s3 @s4) ?_;refine c1 0 (Jr x) ?_;refine Aa (A3 @s0 @s3 @s4) ?_;exact Bj
 rw [if_neg h9] at hrd;have hd : d.toNat < 256 := d.toNat_lt;have hp : 2 ^ (7 * (i + 1)) = 128 * 2 ^ (7 * i) := by rw [show 7 * (i + 1) = 7 + 7 * i from by omega, Nat.pow_add]
 have hq : 2 ^ (7 * (i + 1)) ≤ 2 ^ 63 := Nat.pow_le_pow_right (by omega) (by omega)
 have hshl : ∀ c : Nat, c ≤ 127 → FS .i64 (c : Int) (7 * (i : Int)) = some (.it .i64 ((c * 2 ^ (7 * i) : Nat) : Int)) := fun c hc => by
  have hc' : c * 2 ^ (7 * i) ≤ 127 * 2 ^ (7 * i) := Nat.mul_le_mul_right _ hc;unfold FS;rw [if_pos (by omega)]
  congr 2
  rw [show ((7 : Int) * (i : Int)).toNat = 7 * i from by omega, show min (7 * i) IntKind.i64.bits = 7 * i from Nat.min_eq_left (by show _ ≤ 64; omega)]
  rw [show ((c : Int) * 2 ^ (7 * i)) = ((c * 2 ^ (7 * i) : Nat) : Int) from by push_cast; rfl]
  exact wrap64 (by omega) (by omega)
 by_cases h128 : 128 ≤ d.toNat
 ·rw [if_pos h128] at hrd
  have hc : (d.toNat - 128) * 2 ^ (7 * i) ≤ 127 * 2 ^ (7 * i) := Nat.mul_le_mul_right _ (by omega)
  have hsub : IntKind.u8.wrap ((d.toNat : Int) - 128) = ((d.toNat - 128 : Nat) : Int) := by rw [JJ (by omega) (by omega)]; omega
  have hsh := hshl (d.toNat - 128) (by omega)
  have hor := Su acc (d.toNat - 128) (7 * i) hacc (by omega)
  generalize (d.toNat - 128) * 2 ^ (7 * i) = c at *;refine Aa (A8 @s0 @s3 @s4 @hg @hu @hsub @hsh @hor) ?_;exact AG (9 - (i + 1)) (by omega) ⟨i + 1, acc + c, Ad, Ad, Ad, rfl, by omega, by omega, by omega, hrd, rfl⟩
 rw [if_neg h128] at hrd;by_cases hz : d.toNat = 0 ∧ 0 < i
 ·rw [if_pos hz] at hrd
  have hnum : x.num = (0, Co.fail) := by unfold R.num; rw [hrd]
  have hz0 := hz.1;have hz1 := hz.2;rw [hnum];refine Aa (A6 @s0 @s3 @s4 @hg @hu @hz0) ?_;refine c1 0 (Jr x) ?_;refine Aa (A3 @s0 @s3 @s4) ?_;exact Bj
 ·rw [if_neg hz] at hrd
  have hnum : x.num = (acc + d.toNat * 2 ^ (7 * i), ⟨x.rest.drop (i + 1), x.bad⟩) := by unfold R.num; rw [hrd]
  have hc : d.toNat * 2 ^ (7 * i) ≤ 127 * 2 ^ (7 * i) := Nat.mul_le_mul_right _ (by omega)
  have hsh := hshl d.toNat (by omega)
  have hor := Su acc d.toNat (7 * i) hacc (by omega)
  rw [hnum];generalize d.toNat * 2 ^ (7 * i) = c at *;have hdd : x.rest.take x.rest.length = x.rest := List.take_length;by_cases hz0 : d.toNat = 0
  ·have hi0 : i = 0 := by omega
   subst hi0;refine Aa (A8 @s0 @s3 @s4 @hg @hu @hsh @hor @hdd) ?_;exact Bj
  ·refine Aa (A8 @s0 @s3 @s4 @hg @hu @hsh @hor @hdd) ?_
   exact Bj
theorem Rm (x : R) (hx : x.rest.length < 9223372036854775808) : AC prog 193 [.ptr 0 0] [rd x] (.st x.text.1) [rd x.text.2] := by
 refine Ai [] [] func193 ?_;have h1 := F8 x;have h2 := Cq x;refine run ?_;refine c1 0 (J5 x hx) ?_;refine run ?_;refine c1 0 (JR x.num.2 x.num.1 (by omega) (by omega)) ?_
 refine run ?_;exact Bj
theorem Ef {n : Nat} (h : n < 9223372036854775808) : (num n).length ≤ 9 := Jf 8 n (by omega)
theorem AR {s : By} (h : s.length ≤ 1000000) : (text s).length ≤ 1000009 := by
 have := Ef (n := s.length) (by omega)
 unfold text; rw [List.length_append]; omega
theorem Uc {l : List By} {k : Nat} (hk : k < l.length) : ((l.take (k + 1)).map text).flatten = ((l.take k).map text).flatten ++ text l[k] := by
 rw [List.take_succ_eq_append_getElem hk, List.map_append, List.flatten_append];congr 1
 exact List.append_nil _
theorem O7 {l : List By} (hx : ∀ x ∈ l, x.length ≤ 1000000) : (l.map text).flatten.length ≤ l.length * 1000009 := by
 induction l with
 | nil => simp
 | cons a l ih =>
  have h1 := ih fun x h => hx x (by simp [h])
  have h2 := AR (hx a (by simp))
  rw [List.map_cons, List.flatten_cons, List.length_append, List.length_cons, Nat.succ_mul]; omega
theorem Oy {l : List By} (hl : l.length ≤ 1000000) (hx : ∀ x ∈ l, x.length ≤ 1000000) : (list l).length ≤ 1000009000009 := by
 have := Ef (n := l.length) (by omega)
 have h2 := O7 hx;have h3 : l.length * 1000009 ≤ 1000000 * 1000009 := Nat.mul_le_mul_right _ hl;unfold list; rw [List.length_append]; omega
theorem XZ (l : List By) (hl : l.length ≤ 1000000) (hx : ∀ x ∈ l, x.length ≤ 1000000) : AC prog 274 [Bn l, .fn (.func 33) [] []] [] (.st (list l)) [] := by
 refine Ai [68, 1000019] [] func274 ?_;have hn9 := Ef (n := l.length) (by omega)
 refine run ?_;refine cp (Cf l.length (by omega) (by omega)) ?_
 rw [E9];refine run ?_;refine Bp (fun m e S => e 1 = .fn (.func 33) [] [] ∧ e 12 = Bn l ∧ e 13 = .it .i64 (l.length : Int) ∧ ∃ (k : Nat) (acc : By), e 5 = .sl (.own 0) (acc.map u8) ∧ e 14 = .it .i64 (k : Int) ∧ S = [.buf acc.length 5 1] ∧ acc = num l.length ++ ((l.take k).map text).flatten ∧ k ≤ l.length ∧ m = l.length - k) l.length
  ⟨Ad, Ad, Ad, 0, num l.length, Ad, Ad, rfl, by simp, by omega, rfl⟩ ?_
 rintro m e S ⟨s1, s12, s13, k, acc, s5, s14, rfl, hacc, hk, rfl⟩
 by_cases hlt : k < l.length
 ·have ga : l[k]? = some l[k] := List.getElem?_eq_getElem hlt
  have hxk := hx l[k] (List.getElem_mem hlt);have htl := AR hxk;have hal : acc.length ≤ 1000009000009 := by
   have h1 := O7 (l := l.take k) fun x h => hx x (List.mem_of_mem_take h)
   have h2 : (l.take k).length * 1000009 ≤ 1000000 * 1000009 := Nat.mul_le_mul_right _ (by rw [List.length_take]; omega)
   rw [hacc, List.length_append]; omega
  have hft := Uc hlt;generalize l[k] = x at *;refine Aa (A6 @s1 @s5 @s12 @s13 @s14 @ga) ?_;refine cp (CO x (by omega)) ?_
  refine Aa (A5 @s1 @s5 @s12 @s13 @s14) ?_;refine AG (l.length - (k + 1)) (by omega) ⟨Ad, Ad, Ad, k + 1, acc ++ text x, by rw [List.map_append]; exact Ad, Ad, by rw [List.length_append], by rw [hacc, hft, List.append_assoc], by omega, rfl⟩
 ·obtain rfl : k = l.length := by omega
  rw [List.take_length] at hacc;refine Aa (A5 @s1 @s5 @s12 @s13 @s14) ?_;rw [show list l = acc from hacc.symm]
  exact Ab
theorem Te (l : List By) (hl : l.length ≤ 1000000) (hx : ∀ x ∈ l, x.length ≤ 1000000) : AC prog 255 [Bn l] [] (.st (list l)) [] := by
 refine Ai [274] [] func255 ?_;refine run ?_;refine cp (XZ l hl hx) ?_;refine run ?_;exact Ab
theorem QE (n : Nat) (r : By) : R.texts n ⟨r, true⟩ = ([], ⟨r, true⟩) := by cases n <;> rfl
theorem YD (n : Nat) (r : By) : R.texts (n + 1) ⟨r, false⟩ = ((R.text ⟨r, false⟩).1 :: (R.texts n (R.text ⟨r, false⟩).2).1, (R.texts n (R.text ⟨r, false⟩).2).2) := rfl
set_option maxHeartbeats 1600000 in
theorem ZaW (x : R) (hx : x.rest.length ≤ 1000000) : AC prog 254 [.ptr 0 0, .fn (.func 193) [.ptr 0 0] []] [rd x] (Bn x.list.1) [rd x.list.2] := by
 refine Ai [] [] func254 ?_;have h1 := F8 x;have h2 := Cq x;refine run ?_;refine c1 0 (J5 x (by omega)) ?_
 unfold R.list;simp only
 generalize x.num = q at *;obtain ⟨n, z⟩ := q;simp only at h1 h2 ⊢
 by_cases hlt : z.rest.length < n
 focus
  rw [if_pos hlt];refine run ?_;refine c1 0 (Jr z) ?_;refine run ?_;have hy : Co.fail.rest.length ≤ 1000000 ∧ (n ≤ 1000000 ∨ Co.fail.bad = true) := ⟨Nat.zero_le _, .inr rfl⟩;generalize Co.fail = y at *
 rotate_left;focus
  rw [if_neg hlt];refine run ?_;have hy : z.rest.length ≤ 1000000 ∧ (n ≤ 1000000 ∨ z.bad = true) := ⟨by omega, .inl (by omega)⟩
  generalize z = y at *
 all_goals
  refine Eg (fun m e S => e 0 = .ptr 0 0 ∧ e 1 = .fn (.func 193) [.ptr 0 0] [] ∧ e 5 = .it .i64 (n : Int) ∧ ∃ (k : Nat) (acc : List By) (r : By) (b : Bool), e 6 = .sl (.own 1) (acc.map .st) ∧ e 7 = .it .i64 (k : Int) ∧ S = [rd ⟨r, b⟩, .buf acc.length 9 1] ∧
   acc.length = k ∧ k ≤ n ∧ r.length ≤ 1000000 ∧ (n ≤ 1000000 ∨ b = true) ∧ R.texts n y = (acc ++ (R.texts (n - k) ⟨r, b⟩).1, (R.texts (n - k) ⟨r, b⟩).2) ∧ m = n - k) n _ _ (Ay.reserve 1 6 (es := []) (by rfl) 9 1)
   ⟨Ad, Ad, Ad, 0, [], y.rest, y.bad, Ad, Ad, rfl, rfl, by omega, hy.1, hy.2, rfl, rfl⟩ ?_
  rintro m e S ⟨s0, s1, s5, k, acc, r, b, s6, s7, rfl, hal, hk, hr, hnb, htx, rfl⟩
  cases b
  rotate_left
  ·rw [QE, List.append_nil] at htx
   rw [htx, if_pos rfl];by_cases hkn : k < n
   ·refine Aa (A5 @s0 @s1 @s5 @s6 @s7) ?_
    exact GZ
   ·refine Aa (A5 @s0 @s1 @s5 @s6 @s7) ?_
    exact GZ
  ·by_cases hkn : k < n
   ·have hn : n ≤ 1000000 := hnb.resolve_right (by simp)
    obtain ⟨j, hj⟩ : ∃ j, n - k = j + 1 := ⟨n - k - 1, by omega⟩
    rw [hj, YD] at htx;have htr := Ep ⟨r, false⟩;have hc := Rm ⟨r, false⟩ (by show r.length < _; omega)
    generalize R.text ⟨r, false⟩ = t at *;obtain ⟨ts, tr, tb⟩ := t;simp only at htr hc htx
    refine Aa (A5 @s0 @s1 @s5 @s6 @s7) ?_;refine c1 0 hc ?_;refine Aa (A5 @s0 @s1 @s5 @s6 @s7) ?_;refine AG (n - (k + 1)) (by omega) ⟨Ad, Ad, Ad, k + 1, acc ++ [ts], tr, tb, by rw [List.map_append]; exact Ad, Ad, by rw [List.length_append]; rfl, by rw [List.length_append, hal]; rfl, by omega, by omega, .inl hn, ?_, rfl⟩
    rw [htx, show n - (k + 1) = j from by omega, List.append_assoc]; rfl
   ·have hkn' : n - k = 0 := by omega
    rw [hkn'] at htx;have htx : R.texts n y = (acc, ⟨r, false⟩) := by rw [htx]; simp [R.texts]
    rw [htx, if_neg (by simp)]
    refine Aa (A5 @s0 @s1 @s5 @s6 @s7) ?_;exact GZ
theorem Zaf (x : R) (hx : x.rest.length ≤ 1000000) : AC prog 194 [.ptr 0 0] [rd x] (Bn x.list.1) [rd x.list.2] := by
 refine Ai [] [] func194 ?_;refine run ?_;refine Au (ZaW x hx) ?_;refine run ?_;exact Bj
end Pe
end
end Go.Proofs.YtldohjjoicmfpaaGreatDoor
