/- Two disks in one memory: a disk and its copy. -/
import Derived.Test.YtknbnhmenohacaaDiskWi
namespace Go.Proofs.Ytknbnhmenohacaa
open Go.RowKit Dm
theorem DRep.tight {S : Nat → Prop} {w : World} {g : Nat} {d : Dk} (h : DRep w S g d) : DRep w (fun b => S b ∧ b < w.heap.size) g d := by
  obtain ⟨vs, kv, hr, h⟩ := h
  exact ⟨vs, kv, hr, ⟨h.head, hr.lt⟩, h.fil, fun i b hi hb => ⟨⟨(h.own i b hi hb).1, (h.fil i hi).block b hb⟩, (h.own i b hi hb).2⟩, h.apart, h.kp, fun b hb => ⟨⟨(h.kown b hb).1, h.klt b hb⟩, (h.kown b hb).2⟩, h.kapart, h.klt⟩
/-- the disks d at g and c at g2, in blocks of their own -/
structure Two (w0 w : World) (g : Nat) (d : Dk) (g2 : Nat) (c : Dk) : Prop where
  both : ∃ S1 S2 : Nat → Prop, DRep w S1 g d ∧ DRep w S2 g2 c ∧ (∀ b, S1 b → ¬ S2 b) ∧ (∀ b, S1 b → w0.heap.size ≤ b) ∧ (∀ b, S2 b → w0.heap.size ≤ b)
  okd : Ok d
  okc : Ok c
  fr : Fr (fun b => w0.heap.size ≤ b) w0 w
section
variable {w0 w : World} {g g2 : Nat} {d c : Dk}
theorem Two.swap (T : Two w0 w g d g2 c) : Two w0 w g2 c g d := by
  obtain ⟨⟨S1, S2, h1, h2, h3, h4, h5⟩, o1, o2, f⟩ := T
  exact ⟨⟨S2, S1, h2, h1, fun b hb hb' => h3 b hb' hb, h5, h4⟩, o2, o1, f⟩
theorem Two.live (T : Two w0 w g d g2 c) : Live w0 w (fun b => w0.heap.size ≤ b) g d := by
  obtain ⟨⟨S1, S2, h1, h2, h3, h4, h5⟩, o1, o2, f⟩ := T
  exact ⟨h1.more h4, o1, f, fun _ h => h⟩
/-- a call on the first disk -/
theorem Two.call (T : Two w0 w g d g2 c) {f : FuncId} {args : Array Value} {r : Value} {d' : Dk} (ho : Ok d → Ok d')
    (h : ∀ S : Nat → Prop, DRep w S g d → (∀ b, w.heap.size ≤ b → S b) → Calls Try.prog f args w fun e w' => e = .returned r ∧ DRep w' S g d' ∧ Fr S w w') :
    Calls Try.prog f args w fun e w' => e = .returned r ∧ Two w0 w' g d' g2 c := by
  obtain ⟨⟨S1, S2, h1, h2, h3, h4, h5⟩, o1, o2, fr⟩ := T
  have h1 := h1.tight
  have h2 := h2.tight
  refine (h (fun b => (S1 b ∧ b < w.heap.size) ∨ w.heap.size ≤ b) (h1.more fun b hb => .inl hb) (fun b hb => .inr hb)).mono fun e w' ⟨he, hd, hf⟩ => ⟨he, ?_⟩
  have hs := fr.size
  refine ⟨⟨_, _, hd, h2.keep (w' := w') (fun b hb hlt => hf.block b hlt ?_), fun b hb hb' => ?_, fun b hb => ?_, fun b hb => h5 b hb.1⟩, ho o1, o2, fr.trans (hf.more fun b hb => ?_)⟩
  · rintro (h | h)
    · exact h3 b h.1 hb.1
    · omega
  · rcases hb with h | h
    · exact h3 b h.1 hb'.1
    · have := hb'.2; omega
  · rcases hb with h | h
    · exact h4 b h.1
    · omega
  · rcases hb with h | h
    · exact h4 b h.1
    · omega
theorem two_flush (T : Two w0 w g d g2 c) (f : Int) {r : Int} {d' : Dk} (he : flushD d f = (r, d')) :
    Calls Try.prog 11 #[.pointer (some ⟨g, 0, none⟩), .int .i64 f] w fun e w' => e = .returned (.int .i64 r) ∧ Two w0 w' g d' g2 c :=
  T.call (fun ho => by have := flush_ok ho f; rw [he] at this; exact this) fun S h hS => by have := flush_any h T.okd hS f; rw [he] at this; exact this
theorem two_crash (T : Two w0 w g d g2 c) : Calls Try.prog 13 #[.pointer (some ⟨g, 0, none⟩), .slice none 0 0] w fun e w' => e = .returned (.tuple #[]) ∧ Two w0 w' g (crash d []) g2 c :=
  T.call (fun ho => crash_ok ho []) fun S h _ => (crash_any h T.okd _ [] (Kp.nil w) (fun b hb => by cases hb)).mono fun _ _ ⟨h1, h2, h3⟩ => ⟨h1, h2, h3.more fun b hb => by rw [hb]; exact h.at'⟩
theorem two_start (T : Two w0 w g d g2 c) : Calls Try.prog 14 #[.pointer (some ⟨g, 0, none⟩)] w fun e w' => e = .returned (.tuple #[]) ∧ Two w0 w' g (bring d) g2 c :=
  T.call (fun ho => bring_ok ho) fun S h _ => (start_any h).mono fun _ _ ⟨h1, h2, h3⟩ => ⟨h1, h2, h3.more fun b hb => by rw [hb]; exact h.at'⟩
end
theorem live_copy {w0 w : World} {g : Nat} {d : Dk} (L : Live w0 w (fun b => w0.heap.size ≤ b) g d) (hl : d.keep.length ≤ 1000000) :
    Calls Try.prog 24 #[.pointer (some ⟨g, 0, none⟩)] w fun e w' => ∃ g2, e = .returned (.pointer (some ⟨g2, 0, none⟩)) ∧ Two w0 w' g d g2 d :=
  (copy_any L.rep.tight L.ok hl).mono fun _ w' ⟨g2, h1, h2, h3, h4⟩ => ⟨g2, h1, ⟨_, _, h2, h3, fun b hb hb' => by have := hb.2; omega, fun b hb => hb.1, fun b hb => Nat.le_trans L.fr.size hb⟩, L.ok, L.ok, L.fr.trans (Fr.grown h4 fun b hb => by cases hb)⟩
end Go.Proofs.Ytknbnhmenohacaa
