/- Stores with a tail; ranges of keys; comparing heads. -/
import Derived.Test.YthbpbkbjdfcnjaaGreatDoorMiA
set_option linter.unusedSectionVars false
set_option linter.unusedVariables false
set_option linter.unusedSimpArgs false
namespace Go.Proofs.YthbpbkbjdfcnjaaGreatDoor.Pe
open Go Go.RowKit Co Sg Ac It Sl
theorem ul2 (T : Store) (x y z : SObj) : (T ++ [x] ++ [y] ++ [z])[T.length + 1 + 1]? = some z := by simp [Nat.add_assoc]
theorem ul2s (T : Store) (x y z u : SObj) : (T ++ [x] ++ [y] ++ [z]).set (T.length + 1 + 1) u = T ++ [x] ++ [y] ++ [u] := by simp [Nat.add_assoc]
theorem ul21 (T : Store) (x y z : SObj) : (T ++ [x] ++ [y] ++ [z])[T.length + 1]? = some y := by simp
theorem ul20 (T : Store) (x y z : SObj) : (T ++ [x] ++ [y] ++ [z])[T.length]? = some x := by simp
theorem keyE_rng {k : Key} (h : k.right = true) : (-9223372036854775808 ≤ k.secret ∧ k.secret ≤ 9223372036854775807) ∧ (-9223372036854775808 ≤ k.pub ∧ k.pub ≤ 9223372036854775807) := by
 obtain ⟨h1, h2, h3⟩ := Key.right_iff.1 h
 have := pub_range h
 exact ⟨by omega, by omega⟩
theorem headE_eqb (x y : Head) : ((x.server == y.server) && ((x.size == y.size) && ((x.root == y.root) && ((x.time == y.time) && ((x.sig.e == y.sig.e) && (x.sig.s == y.sig.s)))))) = decide (x = y) := by
 obtain ⟨x1, x2, x3, x4, ⟨x5, x6⟩⟩ := x
 obtain ⟨y1, y2, y3, y4, ⟨y5, y6⟩⟩ := y
 rw [Bool.eq_iff_iff]
 simp
end Go.Proofs.YthbpbkbjdfcnjaaGreatDoor.Pe
