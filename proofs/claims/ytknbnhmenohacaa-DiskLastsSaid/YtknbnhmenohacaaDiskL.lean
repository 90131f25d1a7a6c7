/- Contracts of package disk for a law that keeps one disk: the disk, what is known of it, and the frame, in one. -/
import Derived.Test.YtknbnhmenohacaaDiskWg
namespace Go.Proofs.Ytknbnhmenohacaa
set_option linter.unusedSectionVars false
set_option linter.unusedVariables false
set_option linter.unusedSimpArgs false
open Go.RowKit Dm
/-- the disk d lives at block g of w, and since w0 only blocks of S have changed -/
structure Live (w0 w : World) (S : Nat → Prop) (g : Nat) (d : Dk) : Prop where
  rep : DRep w S g d
  ok : Ok d
  fr : Fr S w0 w
  all : ∀ b, w0.heap.size ≤ b → S b
section
variable {S : Nat → Prop} {w0 w : World} {g : Nat} {d : Dk}
theorem Live.here (L : Live w0 w S g d) : ∀ b, w.heap.size ≤ b → S b := fun b hb => L.all b (Nat.le_trans L.fr.size hb)
theorem Live.drewN (L : Live w0 w S g d) (n : Nat) : Live w0 (w.drewN n) S g d := ⟨L.rep.drewN n, L.ok, L.fr.trans (Fr.drewN _ _), L.all⟩
theorem Live.alloc (L : Live w0 w S g d) (o : Obj) : Live w0 (w.alloc o) S g d := ⟨L.rep.alloc o, L.ok, L.fr.trans (Fr.alloc _ _), L.all⟩
theorem live_new (w : World) (S : Nat → Prop) (hS : ∀ b, w.heap.size ≤ b → S b) : Calls Try.prog 9 #[] w fun e w' => ∃ g, e = .returned (.pointer (some ⟨g, 0, none⟩)) ∧ Live w w' S g dk0 :=
  (new_any w S hS).mono fun _ _ ⟨g, h1, h2, h3, _⟩ => ⟨g, h1, h2, dk0_ok, h3, hS⟩
theorem live_append (L : Live w0 w S g d) (f : Int) (s : ByteArray) (hs : s.size ≤ 9223372036854775807) {r : Int} {d' : Dk} (he : appendD d f s.data.toList = (r, d')) :
    Calls Try.prog 10 #[.pointer (some ⟨g, 0, none⟩), .int .i64 f, .string s] w fun e w' => e = .returned (.int .i64 r) ∧ Live w0 w' S g d' := by
  have h := append_any L.rep L.ok L.here f s hs
  have ho := append_ok L.ok f s.data.toList
  rw [he] at h ho
  exact h.mono fun _ _ ⟨h1, h2, h3⟩ => ⟨h1, h2, ho, L.fr.trans h3, L.all⟩
theorem live_flush (L : Live w0 w S g d) (f : Int) {r : Int} {d' : Dk} (he : flushD d f = (r, d')) :
    Calls Try.prog 11 #[.pointer (some ⟨g, 0, none⟩), .int .i64 f] w fun e w' => e = .returned (.int .i64 r) ∧ Live w0 w' S g d' := by
  have h := flush_any L.rep L.ok L.here f
  have ho := flush_ok L.ok f
  rw [he] at h ho
  exact h.mono fun _ _ ⟨h1, h2, h3⟩ => ⟨h1, h2, ho, L.fr.trans h3, L.all⟩
theorem live_cut (L : Live w0 w S g d) (f n : Int) {r : Int} {d' : Dk} (he : cutD d f n = (r, d')) :
    Calls Try.prog 25 #[.pointer (some ⟨g, 0, none⟩), .int .i64 f, .int .i64 n] w fun e w' => e = .returned (.int .i64 r) ∧ Live w0 w' S g d' := by
  have h := cut_any L.rep L.ok L.here f n
  have ho := cut_ok L.ok f n
  rw [he] at h ho
  exact h.mono fun _ _ ⟨h1, h2, h3⟩ => ⟨h1, h2, ho, L.fr.trans h3, L.all⟩
theorem live_turn (L : Live w0 w S g d) (f n : Int) {r : Int} {d' : Dk} (he : turnD d f n = (r, d')) :
    Calls Try.prog 12 #[.pointer (some ⟨g, 0, none⟩), .int .i64 f, .int .i64 n] w fun e w' => e = .returned (.int .i64 r) ∧ Live w0 w' S g d' := by
  have h := turn_any L.rep L.ok L.here f n
  have ho := turn_ok L.ok f n
  rw [he] at h ho
  exact h.mono fun _ _ ⟨h1, h2, h3⟩ => ⟨h1, h2, ho, L.fr.trans h3, L.all⟩
theorem live_crash (L : Live w0 w S g d) (kv : Value) (ks : List Int) (hk : Kp w kv ks) (hb : ∀ b, bl kv = some b → b ≠ g) :
    Calls Try.prog 13 #[.pointer (some ⟨g, 0, none⟩), kv] w fun e w' => e = .returned (.tuple #[]) ∧ Live w0 w' S g (crash d ks) :=
  (crash_any L.rep L.ok kv ks hk (fun _ => hb)).mono fun _ _ ⟨h1, h2, h3⟩ => ⟨h1, h2, crash_ok L.ok ks, L.fr.trans (h3.more fun b hb => by rw [hb]; exact L.rep.at'), L.all⟩
theorem live_start (L : Live w0 w S g d) :
    Calls Try.prog 14 #[.pointer (some ⟨g, 0, none⟩)] w fun e w' => e = .returned (.tuple #[]) ∧ Live w0 w' S g (bring d) :=
  (start_any L.rep).mono fun _ _ ⟨h1, h2, h3⟩ => ⟨h1, h2, bring_ok L.ok, L.fr.trans (h3.more fun b hb => by rw [hb]; exact L.rep.at'), L.all⟩
theorem live_lose (L : Live w0 w S g d) (n : Int) (hn : n ≤ 9223372036854775807) :
    Calls Try.prog 23 #[.pointer (some ⟨g, 0, none⟩), .int .i64 n] w fun e w' => e = .returned (.tuple #[]) ∧ Live w0 w' S g (lose d n) :=
  (lose_any L.rep n hn).mono fun _ _ ⟨h1, h2, h3⟩ => ⟨h1, h2, lose_ok L.ok n hn, L.fr.trans (h3.more fun b hb => by rw [hb]; exact L.rep.at'), L.all⟩
theorem live_read (L : Live w0 w S g d) (f : Int) {l : List UInt8} {r : Int} (he : peek d f = (l, r)) :
    Calls Try.prog 15 #[.pointer (some ⟨g, 0, none⟩), .int .i64 f] w fun e w' => e = .returned (.tuple #[.string ⟨l.toArray⟩, .int .i64 r]) ∧ w = w' := by
  have h := read_any L.rep f
  rw [he] at h
  exact h
theorem live_down (L : Live w0 w S g d) {b : Bool} (he : d.down = b) :
    Calls Try.prog 18 #[.pointer (some ⟨g, 0, none⟩)] w fun e w' => e = .returned (.bool b) ∧ w = w' := by
  have h := down_any L.rep
  rw [he] at h
  exact h
theorem live_size (L : Live w0 w S g d) (f : Int) {n : Int} (he : (size d f : Int) = n) :
    Calls Try.prog 16 #[.pointer (some ⟨g, 0, none⟩), .int .i64 f] w fun e w' => e = .returned (.int .i64 n) ∧ w = w' := by
  have h := size_any L.rep f
  rw [he] at h
  exact h
end
def q1 : Dk := (appendD dk0 1 [104, 101, 108, 108, 111]).2
def q2 : Dk := (flushD q1 1).2
def q3 : Dk := (appendD q2 1 [121, 111, 117]).2
def q4 : Dk := crash q3 [9, 1]
def q5 : Dk := bring q4
def q6 : Dk := lose q5 1
def q7 : Dk := (flushD q6 1).2
def q8 : Dk := (appendD q7 2 [120]).2
def q9 : Dk := (turnD q8 1 2).2
def q10 : Dk := (flushD q9 2).2
def q11 : Dk := (turnD q10 1 2).2
def q12 : Dk := (appendD q11 8 []).2
def q13 : Dk := (cutD q12 1 2).2
theorem small_run : ∃ q1 q2 q3 q4 q5 q6 q7 q8 q9 q10 q11 q12 q13 : Dk, appendD dk0 1 [104, 101, 108, 108, 111] = (0, q1) ∧ flushD q1 1 = (0, q2) ∧ appendD q2 1 [121, 111, 117] = (0, q3) ∧ crash q3 [9, 1] = q4 ∧ peek q4 1 = ([], 8) ∧ q4.down = true ∧
    bring q4 = q5 ∧ peek q5 1 = ([104, 101, 108, 108, 111, 121], 0) ∧ lose q5 1 = q6 ∧ flushD q6 1 = (18, q7) ∧ appendD q7 2 [120] = (0, q8) ∧ turnD q8 1 2 = (9, q9) ∧ flushD q9 2 = (0, q10) ∧ turnD q10 1 2 = (0, q11) ∧ peek q11 1 = ([120], 0) ∧
    (size q11 2 : Int) = 0 ∧ appendD q11 8 [] = (1, q12) ∧ cutD q12 1 2 = (1, q13) :=
  ⟨q1, q2, q3, q4, q5, q6, q7, q8, q9, q10, q11, q12, q13, Prod.ext (by decide +kernel) rfl, Prod.ext (by decide +kernel) rfl, Prod.ext (by decide +kernel) rfl, rfl, by decide +kernel, by decide +kernel, rfl, by decide +kernel, rfl,
    Prod.ext (by decide +kernel) rfl, Prod.ext (by decide +kernel) rfl, Prod.ext (by decide +kernel) rfl, Prod.ext (by decide +kernel) rfl, Prod.ext (by decide +kernel) rfl, by decide +kernel, by decide +kernel, Prod.ext (by decide +kernel) rfl, Prod.ext (by decide +kernel) rfl⟩
set_option maxRecDepth 100000 in
set_option maxHeartbeats 2000000 in
theorem small_any (w : World) : Calls Try.prog 8 #[] w fun e w' => e = .returned (.bool true) ∧ Below w.heap.size w w' := by
  obtain ⟨q1, q2, q3, q4, q5, q6, q7, q8, q9, q10, q11, q12, q13, a1, a2, a3, a4, a5, a6, a7, a8, a9, a10, a11, a12, a13, a14, a15, a16, a17, a18⟩ := small_run
  have a1 := Veil.mk a1; have a2 := Veil.mk a2; have a3 := Veil.mk a3; have a4 := Veil.mk a4; have a5 := Veil.mk a5; have a6 := Veil.mk a6; have a7 := Veil.mk a7; have a8 := Veil.mk a8; have a9 := Veil.mk a9
  have a10 := Veil.mk a10; have a11 := Veil.mk a11; have a12 := Veil.mk a12; have a13 := Veil.mk a13; have a14 := Veil.mk a14; have a15 := Veil.mk a15; have a16 := Veil.mk a16; have a17 := Veil.mk a17; have a18 := Veil.mk a18
  go_enter Try.func8, Try.ntmps8
  go_wp2_with (first
    | (go_at_call 9
       refine (live_new _ (fun b => w.heap.size ≤ b) (fun _ h => h)).mono ?_
       rintro e w1 ⟨g, rfl, L⟩
       have L := Veil.mk L)
    | (go_at_call 10
       refine (live_append L.out _ _ (by decide) (by first | exact a1.out | exact a3.out | exact a11.out | exact a17.out)).mono ?_
       rintro e w1 ⟨rfl, L'⟩
       have L := Veil.mk L'; clear L')
    | (go_at_call 11
       refine (live_flush L.out _ (by first | exact a2.out | exact a10.out | exact a13.out)).mono ?_
       rintro e w1 ⟨rfl, L'⟩
       have L := Veil.mk L'; clear L')
    | (go_at_call 12
       refine (live_turn L.out _ _ (by first | exact a12.out | exact a14.out)).mono ?_
       rintro e w1 ⟨rfl, L'⟩
       have L := Veil.mk L'; clear L')
    | (go_at_call 25
       refine (live_cut L.out _ _ (by first | exact a18.out)).mono ?_
       rintro e w1 ⟨rfl, L'⟩
       have L := Veil.mk L'; clear L')
    | (go_at_call 15
       refine (live_read L.out _ (by first | exact a5.out | exact a8.out | exact a15.out)).mono ?_
       rintro e w1 ⟨rfl, rfl⟩)
    | (go_at_call 18
       refine (live_down L.out a6.out).mono ?_
       rintro e w1 ⟨rfl, rfl⟩)
    | (go_at_call 16
       refine (live_size L.out _ a16.out).mono ?_
       rintro e w1 ⟨rfl, rfl⟩)
    | (go_at_call 14
       refine (live_start L.out).mono ?_
       rintro e w1 ⟨rfl, L'⟩
       rw [a7.out] at L'
       have L := Veil.mk L'; clear L')
    | (go_at_call 23
       refine (live_lose L.out _ (by decide)).mono ?_
       rintro e w1 ⟨rfl, L'⟩
       rw [a9.out] at L'
       have L := Veil.mk L'; clear L')
    | (go_at_call 13
       have L1 := Veil.mk (L.out.alloc (.cells #[.int .i64 9, .int .i64 1] 3))
       refine (live_crash L1.out _ [9, 1] (Kp.lit2 _ _ 9 1) (bl_ne L.out.rep.lt)).mono ?_
       rintro e w1 ⟨rfl, L'⟩
       rw [a4.out] at L'
       have L := Veil.mk L'; clear L' L1))
  go_ret
  exact ⟨rfl, L.out.fr.below (Below.refl _ _) (fun b hb h => by omega) (Nat.le_refl _)⟩
end Go.Proofs.Ytknbnhmenohacaa
