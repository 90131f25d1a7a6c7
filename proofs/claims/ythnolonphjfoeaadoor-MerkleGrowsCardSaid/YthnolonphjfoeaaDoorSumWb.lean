/- The walk of sum.schedule. -/
import Derived.Test.YthnolonphjfoeaaDoorSumWa
import Derived.Test.YthnolonphjfoeaaDoorMem
import Derived.BigRegion
import Derived.RegionTactic
import Derived.BigQuiet
namespace Go.Proofs.YthnolonphjfoeaaDoor
set_option linter.unusedSectionVars false
set_option linter.unusedVariables false
set_option linter.unusedSimpArgs false
open Go.RowKit Sm
/-- block b is a row of n words, of which the first are ws and the others 0 -/
def rowU (w : World) (b : Nat) (t : TypeId) (n : Nat) (ws : List (BitVec 32)) : Prop := w.rowIs b t n (fun j => w32 (ws.getD j 0))
theorem rowU_push {w : World} {b : Nat} {t : TypeId} {n : Nat} {ws : List (BitVec 32)} (h : rowU w b t n ws) (x : BitVec 32) : rowU (w.setCell ⟨b, ws.length, none⟩ (w32 x)) b t n (ws ++ [x]) := by
  refine World.rowIs.congr (World.rowIs.set h ws.length (w32 x)) fun i _ => ?_
  rw [getD_app]
  split <;> rfl
theorem rowU_zero {w : World} {b : Nat} (n : Nat) (cs : Array Value) (t : TypeId) (hb : b = w.heap.size) (h : cs = (List.replicate n (Value.int .u32 0)).toArray) : rowU (w.alloc (.cells cs t)) b t n [] := by
  subst h hb
  have := World.rowIs_alloc w (List.replicate n (Value.int .u32 0)).toArray t (fun _ => w32 0) (fun i hi => by
    simp at hi
    simp [List.getElem?_replicate, hi]
    rfl)
  simpa [rowU] using this
theorem turn_any (x : BitVec 32) (n : Int) (w : World) (h0 : 0 < n) (h : n < 32) :
    Calls Tryd.prog 48 #[w32 x, .int .i64 n] w fun e w' => e = .returned (w32 (rot x n.toNat)) ∧ w = w' := by
  have e := rot_eq x n h0 h
  have E := Veil.mk e; clear e
  go_enter Tryd.func48, Tryd.ntmps48
  go_wp2
  go_ret
  rw [← E.out]
  exact ⟨rfl, rfl⟩
theorem rowU_nil {w : World} {b : Nat} {t : TypeId} {n : Nat} (h : rowU w b t n []) : rowU w b t n (List.replicate n 0) :=
  World.rowIs.congr h (fun i hi => by simp [List.getElem?_replicate, hi])
theorem rowU_heap {w : World} {b : Nat} {t : TypeId} {n : Nat} {ws : List (BitVec 32)} (h : rowU w b t n ws) (hl : ws.length = n) : w.heap[b]? = some (.cells (ws.map w32).toArray t (0, 0)) := by
  obtain ⟨cs, hc, hs, he⟩ := h
  rw [hc]
  have : cs = (ws.map w32).toArray := by
    apply Array.ext
    · simp [hs, hl]
    · intro i h1 h2
      have := he i (by omega)
      rw [Array.getElem?_eq_getElem h1] at this
      injection this with this
      rw [this]
      simp at h2
      simp [List.getElem?_eq_getElem h2]
  rw [this]
theorem info64 : (Tryd.prog.info? 64).map (·.size) = some 64 := by kernel_rfl
theorem info8 : (Tryd.prog.info? 55).map (·.size) = some 8 := by kernel_rfl
set_option maxRecDepth 100000 in
set_option maxHeartbeats 4000000 in
theorem sched_any (s : ByteArray) (w : World) (hs : s.size = 64) :
    Calls Tryd.prog 47 #[.string s] w fun e w' => e = .returned (.agg ((sched s.data.toList).map w32).toArray) ∧ Below w.heap.size w w' := by
  have Hs := Veil.mk hs; clear hs
  go_enter Tryd.func47, Tryd.ntmps47
  go_wp2
  go_loopw [4, 5, 11] (fun _ _ i wr => ∃ k : Nat, k ≤ 16 ∧ i = .int .i64 k ∧ rowU wr w.heap.size 64 64 [] ∧ rowU wr (w.heap.size + 1) 64 64 (firstW s.data.toList k) ∧ Below w.heap.size w wr) (fun _ _ i _ => 16 - (intOf i).toNat)
  case atStart =>
    refine ⟨0, by omega, rfl, World.rowIs.alloc (rowU_zero 64 _ _ rfl rfl) _, ?_, ?_⟩
    · exact rowU_zero 64 _ _ (by simp) rfl
    · exact ((Below.refl _ _).alloc (Nat.le_refl _) _).alloc (by simp) _
  case round =>
    obtain ⟨k, hk, rfl, h0, h1, hb⟩ := hrel
    by_cases hlt : k < 16
    · have hs := Hs.out
      have a1 : 4 * k + 4 ≤ s.size := by omega
      clear hs
      have H0 := Veil.mk h0; clear h0
      have H1 := Veil.mk h1
      have c1 := h1.cell (i := k) (by omega)
      have f1 := h1.frozen k
      clear h1
      go_wp2
      generalize hx : s.extract (4 * k) (4 * k + 4) = x
      have ht : 4 ≤ x.size := by subst hx; rw [ByteArray.size_extract]; omega
      have key : ∀ i (h' : i < x.size) (_ : i < 4), x[i] = s.data.toList.getD (4 * k + i) 0 := by
        subst hx; intro i h' h; exact extract_getD s _ _ i (by omega) a1 h'
      have Key := Veil.mk key
      clear key hx
      have i0 : 0 < x.size := by omega
      have i1 : (1 : Int) < x.size := by omega
      have i2 : (2 : Int) < x.size := by omega
      have i3 : (3 : Int) < x.size := by omega
      go_region
      go_wp2
      go_roundw
      case rel =>
        have e := rowU_push H1.out (word4 x[0] x[1] x[2] x[3])
        rw [firstW_length] at e
        refine ⟨k + 1, by omega, by go_num, World.rowIs.setOther H0.out (by simp) _, ?_, (hb.setCell (by simp) _).drew⟩
        rw [firstW_snoc, wordAt]
        rw [Key.out 0 (by omega) (by omega), Key.out 1 (by omega) (by omega), Key.out 2 (by omega) (by omega), Key.out 3 (by omega) (by omega)] at e ⊢
        exact e
      case measure => simp [intOf]; omega
    · have hk16 : 16 ≤ k := by omega
      clear hlt
      go_wp2
      go_loopw [6, 7, 8] (fun i _ _ wr => ∃ m : Nat, 16 ≤ m ∧ m ≤ 64 ∧ i = .int .i64 m ∧ rowU wr w.heap.size 64 64 [] ∧ rowU wr (w.heap.size + 1) 64 64 (schedN s.data.toList (m - 16)) ∧ Below w.heap.size w wr) (fun i _ _ _ => 64 - (intOf i).toNat)
      case atStart =>
        obtain rfl : k = 16 := by omega
        exact ⟨16, by omega, by omega, rfl, h0, h1, hb⟩
      case round =>
        obtain ⟨m, hm0, hm, rfl, h0, h1, hb⟩ := hrel
        by_cases hlt : m < 64
        · have H0 := Veil.mk h0; clear h0
          have H1 := Veil.mk h1
          have c15 := h1.cell (i := m - 15) (by omega)
          have c2 := h1.cell (i := m - 2) (by omega)
          have c7 := h1.cell (i := m - 7) (by omega)
          have c16 := h1.cell (i := m - 16) (by omega)
          have c0 := h1.cell (i := m) (by omega)
          have f0 := h1.frozen m
          clear h1
          go_wp2
          go_quiet (fail)
          go_wp2_with (go_at_call 48; refine (turn_any _ _ _ (by omega) (by omega)).mono ?_; rintro e w' ⟨rfl, rfl⟩)
          go_region
          go_wp2
          go_roundw
          case rel =>
            have e := rowU_push H1.out (nextW (schedN s.data.toList (m - 16)) m)
            rw [schedN_length, show 16 + (m - 16) = m from by omega] at e
            refine ⟨m + 1, by omega, by omega, by go_num, World.rowIs.setOther H0.out (by simp) _, ?_, (belowDrewN (hb.setCell (by simp) _) _)⟩
            rw [show m + 1 - 16 = m - 16 + 1 from by omega, schedN, show 16 + (m - 16) = m from by omega]
            exact e
          case measure => simp [intOf]; omega
        · have hm64 : 64 ≤ m := by omega
          have e : sched s.data.toList = schedN s.data.toList (m - 16) := by rw [sched, show m - 16 = 48 from by omega]
          have E := Veil.mk e; clear e
          have hl : (schedN s.data.toList (m - 16)).length = 64 := by rw [schedN_length]; omega
          generalize hws : schedN s.data.toList (m - 16) = ws at h1 hl
          have Ews := Veil.mk hws; clear hws hlt
          have hr0 := rowU_heap (rowU_nil h0) (by simp)
          have hr1 := rowU_heap h1 hl
          have Hr1 := Veil.mk hr1
          have Hr0 := Veil.mk hr0
          have Hl := Veil.mk hl
          clear h0 h1 hr0 hr1 hl
          have Hc : Veil (∀ j u, (ws.map w32)[j]? = some u → (ws.map w32).toArray[0 + j]? = some u) := ⟨fun j u hu => by simpa using hu⟩
          have Hf : Veil ((ws.map w32).length = (List.map w32 (List.replicate 64 0)).toArray.size) := ⟨by simp [Hl.out]⟩
          have Ho : Veil (∀ u ∈ ws.map w32, u.oneCell' = true) := ⟨oneCell_map32 _⟩
          have Hi : Veil (some 64 = some (ws.map w32).length) := ⟨by rw [List.length_map, Hl.out]⟩
          go_wp2_with (first
            | (refine ld_row rfl _ (.tmp 3) rfl (w.heap.size + 1) 0 rfl Hr1.out Tryd.underlying64 rfl (ws.map w32) (info64.trans Hi.out) Hc.out ?_)
            | (refine st_all rfl _ (.tmp 2) (.tmp 85) rfl w.heap.size rfl (ws.map w32) rfl Hr0.out (info64.trans Hi.out) Hf.out Ho.out ?_))
          refine bodyPost_ret (results_cell_row rfl _ _ w.heap.size _ _ _ _ rfl (setRow_heap wr w.heap.size _ _ _ _ Hr0.out) Tryd.underlying64 rfl (info64.trans (by rw [Hi.out]; simp))) rfl ?_
          exact ⟨by rw [E.out, Ews.out], belowSetRow hb (Nat.le_refl _) _⟩
end Go.Proofs.YthnolonphjfoeaaDoor
