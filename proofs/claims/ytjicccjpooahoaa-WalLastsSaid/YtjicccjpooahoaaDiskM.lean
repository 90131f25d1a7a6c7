/- The plain machine that package disk simulates: files with durable parts, crashes, lost flushes; nothing of the program. -/
import Derived.Test.YtjicccjpooahoaaMem
namespace Go.Proofs.Ytjicccjpooahoaa.Dm
set_option linter.unusedSectionVars false
set_option linter.unusedVariables false
set_option linter.unusedSimpArgs false
open Go
structure Fl where
  data : List UInt8
  dur : Nat
structure Dk where
  fs : Nat → Fl
  down : Bool
  lost : Nat
  armed : Nat
  keep : List Int
def Fl.none : Fl := ⟨[], 0⟩
def dk0 : Dk := ⟨fun _ => Fl.none, false, 0, 0, []⟩
def upd (fs : Nat → Fl) (i : Nat) (f : Fl) : Nat → Fl := fun j => if j = i then f else fs j
theorem upd_same (fs : Nat → Fl) (i : Nat) (f : Fl) : upd fs i f i = f := if_pos rfl
theorem upd_ne (fs : Nat → Fl) {i j : Nat} (h : j ≠ i) (f : Fl) : upd fs i f j = fs j := if_neg h
def kn (f : Int) : Bool := decide (0 ≤ f) && decide (f < 8)
/-- how many bytes of a file survive a crash -/
def Fl.stay (f : Fl) (k : Int) : Nat := f.dur + min (f.data.length - f.dur) k.toNat
def Fl.crash (f : Fl) (k : Int) : Fl := ⟨f.data.take (f.stay k), f.stay k⟩
def Fl.trunc (f : Fl) (n : Nat) : Fl := ⟨f.data.take n, min f.dur n⟩
def crash (d : Dk) (keep : List Int) : Dk := if d.down then d else ⟨fun i => (d.fs i).crash (keep.getD i 0), true, d.lost, 0, []⟩
def strikes (d : Dk) : Bool × Dk := if d.armed = 0 then (false, d) else (decide (d.armed = 1), { d with armed := d.armed - 1 })
def struck (d : Dk) (e : Int) : Int × Dk := if (strikes d).1 then (8, crash (strikes d).2 (strikes d).2.keep) else (e, (strikes d).2)
def appendD (d : Dk) (f : Int) (s : List UInt8) : Int × Dk :=
  if d.down then (8, d) else
  if !kn f then struck d 1 else
  if 16777216 < (d.fs f.toNat).data.length + s.length then struck d 7 else
  struck { d with fs := upd d.fs f.toNat ⟨(d.fs f.toNat).data ++ s, (d.fs f.toNat).dur⟩ } 0
def beginD (d : Dk) (l : List Int) : Int × Dk := if d.down then (8, d) else struck d (if l.all kn then 0 else 1)
def flushD (d : Dk) (f : Int) : Int × Dk :=
  let b := beginD d [f]
  if b.1 ≠ 0 then b else
  if 0 < b.2.lost then (18, { b.2 with lost := b.2.lost - 1 }) else
  (0, { b.2 with fs := upd b.2.fs f.toNat ⟨(b.2.fs f.toNat).data, (b.2.fs f.toNat).data.length⟩ })
def size (d : Dk) (f : Int) : Nat := if kn f then (d.fs f.toNat).data.length else 0
def cutD (d : Dk) (f n : Int) : Int × Dk :=
  let b := beginD d [f]
  if b.1 ≠ 0 then b else
  if n < 0 ∨ (size b.2 f : Int) < n then (1, b.2) else
  (0, { b.2 with fs := upd b.2.fs f.toNat ((b.2.fs f.toNat).trunc n.toNat) })
def turnD (d : Dk) (f g : Int) : Int × Dk :=
  let b := beginD d [f, g]
  if b.1 ≠ 0 then b else
  if f = g then (1, b.2) else
  if (b.2.fs g.toNat).dur < (b.2.fs g.toNat).data.length then (9, b.2) else
  (0, { b.2 with fs := upd (upd b.2.fs f.toNat (b.2.fs g.toNat)) g.toNat Fl.none })
def lose (d : Dk) (n : Int) : Dk := { d with lost := n.toNat }
def armD (d : Dk) (n : Int) (keep : List Int) : Dk := { d with armed := n.toNat, keep := keep }
def bring (d : Dk) : Dk := { d with down := false }
def peek (d : Dk) (f : Int) : List UInt8 × Int := if d.down then ([], 8) else if kn f then ((d.fs f.toNat).data, 0) else ([], 1)
/-- what holds of every disk: durable parts are parts, and no file is too long -/
structure Fl.Ok (f : Fl) : Prop where
  dur : f.dur ≤ f.data.length
  len : f.data.length ≤ 16777216
structure Ok (d : Dk) : Prop where
  fs : ∀ i, (d.fs i).Ok
  lost : d.lost < 9223372036854775808
  armed : d.armed < 9223372036854775808
theorem Fl.none_ok : Fl.none.Ok := ⟨Nat.le_refl _, Nat.zero_le _⟩
theorem dk0_ok : Ok dk0 := ⟨fun _ => Fl.none_ok, by decide, by decide⟩
theorem Fl.stay_le {f : Fl} (h : f.Ok) (k : Int) : f.stay k ≤ f.data.length := by have := h.dur; unfold Fl.stay; omega
theorem Fl.crash_ok {f : Fl} (h : f.Ok) (k : Int) : (f.crash k).Ok := by
  have h1 := Fl.stay_le h k
  have h2 := h.len
  exact ⟨by unfold Fl.crash; simp only [List.length_take]; omega, by unfold Fl.crash; simp only [List.length_take]; omega⟩
theorem Fl.trunc_ok {f : Fl} (h : f.Ok) (n : Nat) : (f.trunc n).Ok := by
  have h1 := h.dur
  have h2 := h.len
  exact ⟨by unfold Fl.trunc; simp only [List.length_take]; omega, by unfold Fl.trunc; simp only [List.length_take]; omega⟩
theorem upd_ok {fs : Nat → Fl} (h : ∀ i, (fs i).Ok) (i : Nat) {f : Fl} (hf : f.Ok) : ∀ j, (upd fs i f j).Ok := by
  intro j
  unfold upd
  split
  · exact hf
  · exact h j
theorem crash_ok {d : Dk} (h : Ok d) (keep : List Int) : Ok (crash d keep) := by
  unfold crash
  split
  · exact h
  · exact ⟨fun i => Fl.crash_ok (h.fs i) _, h.lost, by show (0 : Nat) < _; omega⟩
theorem strikes_ok {d : Dk} (h : Ok d) : Ok (strikes d).2 := by
  unfold strikes
  split
  · exact h
  · exact ⟨h.fs, h.lost, by have := h.armed; show d.armed - 1 < _; omega⟩
theorem struck_ok {d : Dk} (h : Ok d) (e : Int) : Ok (struck d e).2 := by
  unfold struck
  split
  · exact crash_ok (strikes_ok h) _
  · exact strikes_ok h
theorem append_ok {d : Dk} (h : Ok d) (f : Int) (s : List UInt8) : Ok (appendD d f s).2 := by
  unfold appendD
  split
  · exact h
  split
  · exact struck_ok h _
  split
  · exact struck_ok h _
  · refine struck_ok (d := { d with fs := upd d.fs f.toNat ⟨(d.fs f.toNat).data ++ s, (d.fs f.toNat).dur⟩ }) ⟨upd_ok h.fs _ ⟨?_, ?_⟩, h.lost, h.armed⟩ _
    · have := (h.fs f.toNat).dur; simp only [List.length_append]; omega
    · simp only [List.length_append]; omega
theorem begin_ok {d : Dk} (h : Ok d) (l : List Int) : Ok (beginD d l).2 := by
  unfold beginD
  split
  · exact h
  · exact struck_ok h _
theorem flush_ok {d : Dk} (h : Ok d) (f : Int) : Ok (flushD d f).2 := by
  have hb := begin_ok h [f]
  unfold flushD
  simp only
  split
  · exact hb
  split
  · exact ⟨hb.fs, by have := hb.lost; show _ - 1 < _; omega, hb.armed⟩
  · exact ⟨upd_ok hb.fs _ ⟨Nat.le_refl _, (hb.fs _).len⟩, hb.lost, hb.armed⟩
theorem cut_ok {d : Dk} (h : Ok d) (f n : Int) : Ok (cutD d f n).2 := by
  have hb := begin_ok h [f]
  unfold cutD
  simp only
  split
  · exact hb
  split
  · exact hb
  · exact ⟨upd_ok hb.fs _ (Fl.trunc_ok (hb.fs _) _), hb.lost, hb.armed⟩
theorem turn_ok {d : Dk} (h : Ok d) (f g : Int) : Ok (turnD d f g).2 := by
  have hb := begin_ok h [f, g]
  unfold turnD
  simp only
  split
  · exact hb
  split
  · exact hb
  split
  · exact hb
  · exact ⟨upd_ok (upd_ok hb.fs _ (hb.fs _)) _ Fl.none_ok, hb.lost, hb.armed⟩
theorem lose_ok {d : Dk} (h : Ok d) (n : Int) (hn : n ≤ 9223372036854775807) : Ok (lose d n) := ⟨h.fs, by show n.toNat < _; omega, h.armed⟩
theorem arm_ok {d : Dk} (h : Ok d) (n : Int) (hn : n ≤ 9223372036854775807) (keep : List Int) : Ok (armD d n keep) := ⟨h.fs, h.lost, by show n.toNat < _; omega⟩
theorem bring_ok {d : Dk} (h : Ok d) : Ok (bring d) := ⟨h.fs, h.lost, h.armed⟩
end Go.Proofs.Ytjicccjpooahoaa.Dm
