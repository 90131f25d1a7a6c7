/- The walk of agoralaw03.SumResidue: it answers true at every string and word. -/
import Derived.Test.YtcjagjganiigiaaDoorSumWg
import Derived.Test.YtcjagjganiigiaaDoorSumPc
namespace Go.Proofs.YtcjagjganiigiaaDoor
open Go.RowKit Sm
@[go_sem] theorem conv_four {P : Program} (w : World) (src dst e T : TypeId) (g : Nat) (a b c d : UInt8) (hs : P.underlying src = some (.slice e)) (he : P.underlying e = some (.int .u8)) (hd : P.underlying dst = some .string) (hg : g = w.heap.size) :
    (convert src dst (.slice (some ⟨g, 0, none⟩) 4 4)).run P (w.alloc (.cells #[w8 a, w8 b, w8 c, w8 d] T)) = .ok (.string ⟨#[a, b, c, d]⟩) (w.alloc (.cells #[w8 a, w8 b, w8 c, w8 d] T)) := by
  subst hg
  exact str_run (P := P) _ src dst e hs he hd (l := [a, b, c, d]) (Rd.lit w [w8 a, w8 b, w8 c, w8 d] 4 rfl)
theorem q32c : eq32 1214729159#32 1214729159#32 = true := by decide
set_option maxRecDepth 100000 in
set_option maxHeartbeats 2000000 in
theorem residue_any (s : ByteArray) (x : Int) (w : World) (hT : Tabs w) (hx : 0 ≤ x ∧ x < 4294967296) :
    Calls Tryd.prog 6 #[.string s, .int .u32 x] w fun e w' => e = .returned (.bool true) ∧ Below w.heap.size w w' := by
  have ht : Value.int .u32 x = w32 (BitVec.ofInt 32 x) := by
    unfold w32
    rw [BitVec.toNat_ofInt]
    congr 1
    omega
  rw [ht]
  clear ht
  generalize BitVec.ofInt 32 x = t
  have HT := Veil.mk hT; clear hT hx
  by_cases h1 : 4000 < s.size
  · have h1i : (4000 : Int) < s.size := by omega
    go_enter Tryd.func6, Tryd.ntmps6
    go_wp2_with (go_at_call 9; refine (small_any _ HT.out).mono ?_; rintro e w1 ⟨rfl, b1⟩)
    go_ret
    exact ⟨rfl, b1⟩
  · have h1i : ¬ (4000 : Int) < s.size := by omega
    have hsz : s.size ≤ 4000 := by omega
    have e1 := residue s.data.toList
    have e2 := residue_iff s.data.toList t
    have C0 := crc_any s
    generalize hc : crc s.data.toList = c at e1 e2 C0
    have C1 : Veil (∀ W : World, Calls Tryd.prog 12 #[.string (s ++ ⟨#[wb c, wb (c >>> 8), wb (c >>> 16), wb (c >>> 24)]⟩)] W fun e w' => e = .returned (w32 1214729159#32) ∧ W = w') := ⟨fun W => by
      have := crc_any (s ++ ⟨#[wb c, wb (c >>> 8), wb (c >>> 16), wb (c >>> 24)]⟩) W (by rw [ByteArray.size_append]; show s.size + 4 ≤ _; omega)
      rw [ByteArray.data_append, Array.toList_append, show (⟨#[wb c, wb (c >>> 8), wb (c >>> 16), wb (c >>> 24)]⟩ : ByteArray).data.toList = le4 c from rfl, e1] at this
      exact this⟩
    have C2' : ∀ W : World, Calls Tryd.prog 12 #[.string (s ++ ⟨#[wb t, wb (t >>> 8), wb (t >>> 16), wb (t >>> 24)]⟩)] W fun e w' => e = .returned (w32 (crc (s.data.toList ++ le4 t))) ∧ W = w' := fun W => by
      have := crc_any (s ++ ⟨#[wb t, wb (t >>> 8), wb (t >>> 16), wb (t >>> 24)]⟩) W (by rw [ByteArray.size_append]; show s.size + 4 ≤ _; omega)
      rw [ByteArray.data_append, Array.toList_append, show (⟨#[wb t, wb (t >>> 8), wb (t >>> 16), wb (t >>> 24)]⟩ : ByteArray).data.toList = le4 t from rfl] at this
      exact this
    generalize crc (s.data.toList ++ le4 t) = d at e2 C2'
    have C2 := Veil.mk C2'
    have C0 := Veil.mk C0
    clear C2' e1 hc
    have q := q32c
    go_enter Tryd.func6, Tryd.ntmps6
    go_wp2_with fail
    refine (small_any _ HT.out).mono ?_
    rintro e w1 ⟨rfl, b1⟩
    go_wp2_with fail
    refine (C0.out _ (by omega)).mono ?_
    rintro e w' ⟨rfl, rfl⟩
    go_wp2_with fail
    refine (C1.out _).mono ?_
    rintro e w' ⟨rfl, rfl⟩
    go_wp2_with fail
    refine (C2.out _).mono ?_
    rintro e w' ⟨rfl, rfl⟩
    go_wp2
    go_ret
    exact ⟨rfl, (b1.alloc b1.size _).alloc (by simp; exact Nat.le_succ_of_le b1.size) _⟩
end Go.Proofs.YtcjagjganiigiaaDoor
