/- Arm for a law; slices of strings that are read. -/
import Derived.Test.YtknbnhmenohacaaDiskTw
import Derived.Test.YtknbnhmenohacaaDiskLa
import Derived.Test.YtknbnhmenohacaaDiskPc
namespace Go.Proofs.Ytknbnhmenohacaa
open Go.RowKit Dm
theorem val_int {k : IntKind} {a b : Int} (h : a = b) : Value.int k a = .int k b := by rw [h]
theorem live_arm {S : Nat → Prop} {w0 w : World} {g : Nat} {d : Dk} (L : Live w0 w S g d) (n : Int) (hn : n ≤ 9223372036854775807) (kv : Value) (ks : List Int) (hk : Kp w kv ks) (hkb : ∀ b, bl kv = some b → b ≠ g) (hl : ks.length ≤ 1000000) :
    Calls Try.prog 22 #[.pointer (some ⟨g, 0, none⟩), .int .i64 n, kv] w fun e w' => e = .returned (.tuple #[]) ∧ Live w0 w' S g (armD d n ks) :=
  (arm_any L.rep L.here n kv ks hk hkb hl).mono fun _ _ ⟨h1, h2, h3⟩ => ⟨h1, h2, arm_ok L.ok n hn ks, L.fr.trans h3, L.all⟩
/-- the value v reads as the strings xs -/
def Sp (w : World) (v : Value) (xs : List ByteArray) : Prop :=
  ∃ A c, v = .slice A xs.length c ∧ xs.length ≤ c ∧ (0 < xs.length → ∃ b o, A = some ⟨b, o, none⟩ ∧ b < w.heap.size ∧ ∀ j, j < xs.length → w.cell? ⟨b, o + j, none⟩ = some (.string (xs.getD j ⟨#[]⟩)))
theorem Sp.at' {w : World} {A : Option Addr} {n c : Nat} {xs : List ByteArray} (h : Sp w (.slice A n c) xs) (k : Nat) (hk : k < xs.length) : ∃ b o, A = some ⟨b, o, none⟩ ∧ b < w.heap.size ∧ w.cell? ⟨b, o + k, none⟩ = some (.string (xs.getD k ⟨#[]⟩)) := by
  obtain ⟨A', c', hv, hc, hr⟩ := h
  simp only [Value.slice.injEq] at hv
  obtain ⟨rfl, _, rfl⟩ := hv
  obtain ⟨b, o, rfl, hb, h⟩ := hr (by omega)
  exact ⟨b, o, rfl, hb, h k hk⟩
theorem Sp.below {w w' : World} {v : Value} {xs : List ByteArray} (h : Sp w v xs) (hb : Below w.heap.size w w') : Sp w' v xs := by
  obtain ⟨A, c, hv, hc, hr⟩ := h
  refine ⟨A, c, hv, hc, fun h0 => ?_⟩
  obtain ⟨b, o, hA, hlt, h⟩ := hr h0
  exact ⟨b, o, hA, Nat.lt_of_lt_of_le hlt hb.size, fun j hj => (hb.cell hlt).trans (h j hj)⟩
/-- the bytes of the first k strings -/
def total (xs : List ByteArray) : Nat → Nat
  | 0 => 0
  | k + 1 => total xs k + (xs.getD k ⟨#[]⟩).size
theorem total_le (xs : List ByteArray) (h : ∀ x ∈ xs, x.size ≤ 140737488355328) (k : Nat) : total xs k ≤ k * 140737488355328 := by
  induction k with
  | zero => exact Nat.zero_le _
  | succ k ih =>
    have : (xs.getD k ⟨#[]⟩).size ≤ 140737488355328 := by
      rw [List.getD_eq_getElem?_getD]
      cases hx : xs[k]? with
      | none => show (0 : Nat) ≤ _; omega
      | some x => exact h x (List.mem_of_getElem? hx)
    rw [total]
    omega
theorem total_mono (xs : List ByteArray) {i j : Nat} (h : i ≤ j) : total xs i ≤ total xs j := by
  induction j with
  | zero => obtain rfl : i = 0 := by omega
            exact Nat.le_refl _
  | succ j ih =>
    rcases Nat.eq_or_lt_of_le h with rfl | hlt
    · exact Nat.le_refl _
    · exact Nat.le_trans (ih (by omega)) (Nat.le_add_right _ _)
end Go.Proofs.Ytknbnhmenohacaa
