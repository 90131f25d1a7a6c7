/- A part. -/
import Derived.Test.YtldohjjoicmfpaaGreatDoorKr10
import Derived.Shelf.Strings.Builder1
import Derived.Shelf.Strings.Builder2
import Derived.Shelf.Strings.OnBuilder
import Derived.Shelf.Bits.Mul64
import Derived.Test.YtldohjjoicmfpaaGreatDoorProg
set_option linter.unusedSectionVars false
set_option linter.unusedVariables false
set_option linter.unusedSimpArgs false
namespace Go.Proofs.YtldohjjoicmfpaaGreatDoor
section
namespace Pe
open Tryz
open Go Go.RowKit Dm
set_option maxRecDepth 100000
set_option maxHeartbeats 4000000
abbrev fL (f : Fl) : List AV := [.st (f.data.take f.dur), .st (f.data.drop f.dur)]
abbrev Aj (g : Nat → Fl) : List AV := fL (g 0) ++ fL (g 1) ++ fL (g 2) ++ fL (g 3) ++ fL (g 4) ++ fL (g 5) ++ fL (g 6) ++ fL (g 7)
abbrev RD (d : Dk) : Ae := [.cells [.ws 1 0 8 8, .it .i64 (d.lost : Int), .bo d.down, .it .i64 0, .sl .full []], .cells (Aj d.fs)]
theorem Jm (g : Nat → Fl) : (Aj g)[0]? = some (.st ((g 0).data.take (g 0).dur)) ∧ (Aj g)[1]? = some (.st ((g 0).data.drop (g 0).dur)) ∧ (Aj g)[2]? = some (.st ((g 1).data.take (g 1).dur)) ∧ (Aj g)[3]? = some (.st ((g 1).data.drop (g 1).dur)) ∧ (Aj g)[4]? = some (.st ((g 2).data.take (g 2).dur)) ∧ (Aj g)[5]? = some (.st ((g 2).data.drop (g 2).dur)) ∧ (Aj g)[6]? = some (.st ((g 3).data.take (g 3).dur)) ∧ (Aj g)[7]? = some (.st ((g 3).data.drop (g 3).dur)) ∧ (Aj g)[8]? = some (.st ((g 4).data.take (g 4).dur)) ∧ (Aj g)[9]? = some (.st ((g 4).data.drop (g 4).dur)) ∧ (Aj g)[10]? = some (.st ((g 5).data.take (g 5).dur)) ∧ (Aj g)[11]? = some (.st ((g 5).data.drop (g 5).dur)) ∧ (Aj g)[12]? = some (.st ((g 6).data.take (g 6).dur)) ∧ (Aj g)[13]? = some (.st ((g 6).data.drop (g 6).dur)) ∧ (Aj g)[14]? = some (.st ((g 7).data.take (g 7).dur)) ∧ (Aj g)[15]? = some (.st ((g 7).data.drop (g 7).dur)) := ⟨rfl, rfl, rfl, rfl, rfl, rfl, rfl, rfl, rfl, rfl, rfl, rfl, rfl, rfl, rfl, rfl⟩
theorem IW (S : Ae) {n : Nat} (hn : S.length = n) (hk : S.all (SObj.ok n) = true) : SubOk (List.range n) S S := by
 have := HZ (S := S) (T := []) n hn hk;rwa [List.append_nil] at this
theorem BJ (d : Dk) : SubOk (List.range 2) (RD d) (RD d) := IW (RD d) rfl rfl
theorem GT {f : Int} (h : kn f = true) : f = 0 ∨ f = 1 ∨ f = 2 ∨ f = 3 ∨ f = 4 ∨ f = 5 ∨ f = 6 ∨ f = 7 := by
 have : 0 ≤ f ∧ f < 8 := by simpa [kn] using h
 omega
theorem Tk {f : Int} (h : kn f = false) : f < 0 ∨ f > 7 := by
 by_cases h0 : 0 ≤ f ∧ f < 8
 ·have : kn f = true := by simp [kn, h0.1, h0.2]
  rw [this] at h; cases h
 ·omega
theorem Za5 : AC prog 8 [] [] (.ptr 0 0) (RD dk0) := by
 refine As [] [] func8 ?_;refine run ?_;refine Aq [1, 0] (by rfl) ?_ (by rfl) (by rfl) (by rfl)
 exact ⟨by decide, rfl, fun i o hi => by
  match i, hi with
  | 0, hi => cases hi; exact ⟨rfl, rfl⟩
  | 1, hi => cases hi; exact ⟨rfl, rfl⟩⟩
theorem Mg (d : Dk) (f : Int) : AC prog 145 [.ptr 0 0, .it .i64 f] (RD d) (.it .i64 (if d.down then 8 else if kn f then 0 else 1)) (RD d) := by
 refine As [] [] func145 ?_;cases hd : d.down with
 | true =>
  refine Aa @hd ?_;exact Aq (List.range 2) (by rfl) (BJ d) (by rfl) (by rfl) (by rfl)
 | false =>
  cases hk : kn f with
  | true =>
   have h1 : ¬ f < 0 := by have := GT hk; omega
   have h2 : ¬ f > 7 := by have := GT hk; omega
   refine Aa (A3 @hd @h1 @h2) ?_;exact Aq (List.range 2) (by rfl) (BJ d) (by rfl) (by rfl) (by rfl)
  | false =>
   by_cases h1 : f < 0
   ·refine Aa (an @hd @h1) ?_
    exact Aq (List.range 2) (by rfl) (BJ d) (by rfl) (by rfl) (by rfl)
   ·have h2 : f > 7 := by have := Tk hk; omega
    refine Aa (A3 @hd @h1 @h2) ?_;exact Aq (List.range 2) (by rfl) (BJ d) (by rfl) (by rfl) (by rfl)
theorem N8 (d : Dk) (f : Int) (t : List UInt8) : AC prog 147 [.ptr 0 0, .it .i64 f, .st t] (RD d) (.tup []) (RD d) := by
 refine As [] [] func147 ?_;cases hd : d.down with
 | true =>
  refine Aa @hd ?_;exact Aq (List.range 2) (by rfl) (BJ d) (by rfl) (by rfl) (by rfl)
 | false =>
  refine Aa @hd ?_;exact Aq (List.range 2) (by rfl) (BJ d) (by rfl) (by rfl) (by rfl)
theorem N7 (d : Dk) (ho : Ok d) (f : Int) : AC prog 86 [.ptr 0 0, .it .i64 f] (RD d) (.it .i64 (size d f : Int)) (RD d) := by
 refine As [] [] func86 ?_;cases hk : kn f with
 | false =>
  have hs : (size d f : Int) = 0 := by unfold size; rw [hk]; rfl
  rw [hs];by_cases h1 : f < 0
  ·refine Aa @h1 ?_
   exact Aq (List.range 2) (by rfl) (BJ d) (by rfl) (by rfl) (by rfl)
  ·have h2 : f > 7 := by have := Tk hk; omega
   refine Aa (an @h1 @h2) ?_;exact Aq (List.range 2) (by rfl) (BJ d) (by rfl) (by rfl) (by rfl)
 | true =>
  have hs : (size d f : Int) = (((d.fs f.toNat).data.take (d.fs f.toNat).dur).length : Int) + (((d.fs f.toNat).data.drop (d.fs f.toNat).dur).length : Int) := by
   have := (ho.fs f.toNat).dur;unfold size;rw [hk, List.length_take, List.length_drop];simp only [if_true];omega
  have hl1 : ((d.fs f.toNat).data.take (d.fs f.toNat).dur).length ≤ 16777216 := by have := (ho.fs f.toNat).len; rw [List.length_take]; omega
  have hl2 : ((d.fs f.toNat).data.drop (d.fs f.toNat).dur).length ≤ 16777216 := by have := (ho.fs f.toNat).len; rw [List.length_drop]; omega
  rw [hs];clear hs;obtain rfl | rfl | rfl | rfl | rfl | rfl | rfl | rfl := GT hk;all_goals
   have hG := Jm d.fs;simp only [Int.toNat_zero, Int.reduceToNat] at hl1 hl2 ⊢;refine Aa (A3 @hG @hl1 @hl2) ?_;exact Aq (List.range 2) (by rfl) (BJ d) (by rfl) (by rfl) (by rfl)
theorem Za4 (d : Dk) (ho : Ok d) (f : Int) : AC prog 83 [.ptr 0 0, .it .i64 f] (RD d) (.tup [.st (peek d f).1, .it .i64 (peek d f).2]) (RD d) := by
 refine As [] [] func83 ?_;have km := Mg d f;cases hd : d.down with
 | true =>
  have hp : peek d f = ([], 8) := by unfold peek; rw [hd]; rfl
  rw [hp];rw [hd] at km;refine run ?_;refine Au km ?_;refine run ?_;exact Aq (List.range 2) (by rfl) (BJ d) (by rfl) (by rfl) (by rfl)
 | false =>
  rw [hd] at km;cases hk : kn f with
  | false =>
   have hp : peek d f = ([], 1) := by unfold peek; rw [hd, hk]; rfl
   rw [hp];rw [hk] at km;refine run ?_;refine Au km ?_;refine run ?_;exact Aq (List.range 2) (by rfl) (BJ d) (by rfl) (by rfl) (by rfl)
  | true =>
   have hp : peek d f = ((d.fs f.toNat).data.take (d.fs f.toNat).dur ++ (d.fs f.toNat).data.drop (d.fs f.toNat).dur, 0) := by unfold peek; rw [hd, hk, List.take_append_drop]; rfl
   rw [hp];rw [hk] at km;have hl1 : ((d.fs f.toNat).data.take (d.fs f.toNat).dur).length ≤ 16777216 := by have := (ho.fs f.toNat).len; rw [List.length_take]; omega
   have hl2 : ((d.fs f.toNat).data.drop (d.fs f.toNat).dur).length ≤ 16777216 := by have := (ho.fs f.toNat).len; rw [List.length_drop]; omega
   clear hp;obtain rfl | rfl | rfl | rfl | rfl | rfl | rfl | rfl := GT hk;all_goals
    have hG := Jm d.fs;simp only [Int.toNat_zero, Int.reduceToNat] at hl1 hl2 ⊢;refine run ?_;refine Au km ?_;refine Aa @hG ?_;exact Aq (List.range 2) (by rfl) (BJ d) (by rfl) (by rfl) (by rfl)
theorem Za6 (d : Dk) (n : Int) : AC prog 21 [.ptr 0 0, .it .i64 n] (RD d) (.tup []) (RD (lose d n)) := by
 refine As [] [] func21 ?_;by_cases h : n > 0
 ·have e : ((lose d n).lost : Int) = n := by show ((n.toNat : Nat) : Int) = n; omega
  unfold RD;rw [e];refine Aa @h ?_;exact Aq (List.range 2) (by rfl) (IW _ rfl rfl) (by rfl) (by rfl) (by rfl)
 ·have e : ((lose d n).lost : Int) = 0 := by show ((n.toNat : Nat) : Int) = 0; omega
  unfold RD;rw [e];refine Aa @h ?_;exact Aq (List.range 2) (by rfl) (IW _ rfl rfl) (by rfl) (by rfl) (by rfl)
theorem Za3 (d : Dk) : AC prog 19 [.ptr 0 0] (RD d) (.tup []) (RD (bring d)) := by
 refine As [] [] func19 ?_;refine run ?_;exact Aq (List.range 2) (by rfl) (BJ (bring d)) (by rfl) (by rfl) (by rfl)
theorem Zdo {f : Fl} (t : List UInt8) (h : f.dur ≤ f.data.length) : fL ⟨f.data ++ t, f.dur⟩ = [.st (f.data.take f.dur), .st (f.data.drop f.dur ++ t)] := by
 show [AV.st _, AV.st _] = _
 rw [List.take_append_of_le_length h, List.drop_append_of_le_length h]
theorem TS (g : Nat → Fl) (f : Fl) (l : List AV) (h : fL f = l) : (Aj (Dm.upd g 0 f) = l ++ fL (g 1) ++ fL (g 2) ++ fL (g 3) ++ fL (g 4) ++ fL (g 5) ++ fL (g 6) ++ fL (g 7)) ∧ (Aj (Dm.upd g 1 f) = fL (g 0) ++ l ++ fL (g 2) ++ fL (g 3) ++ fL (g 4) ++ fL (g 5) ++ fL (g 6) ++ fL (g 7)) ∧ (Aj (Dm.upd g 2 f) = fL (g 0) ++ fL (g 1) ++ l ++ fL (g 3) ++ fL (g 4) ++ fL (g 5) ++ fL (g 6) ++ fL (g 7)) ∧ (Aj (Dm.upd g 3 f) = fL (g 0) ++ fL (g 1) ++ fL (g 2) ++ l ++ fL (g 4) ++ fL (g 5) ++ fL (g 6) ++ fL (g 7))
  ∧ (Aj (Dm.upd g 4 f) = fL (g 0) ++ fL (g 1) ++ fL (g 2) ++ fL (g 3) ++ l ++ fL (g 5) ++ fL (g 6) ++ fL (g 7)) ∧ (Aj (Dm.upd g 5 f) = fL (g 0) ++ fL (g 1) ++ fL (g 2) ++ fL (g 3) ++ fL (g 4) ++ l ++ fL (g 6) ++ fL (g 7)) ∧ (Aj (Dm.upd g 6 f) = fL (g 0) ++ fL (g 1) ++ fL (g 2) ++ fL (g 3) ++ fL (g 4) ++ fL (g 5) ++ l ++ fL (g 7)) ∧ (Aj (Dm.upd g 7 f) = fL (g 0) ++ fL (g 1) ++ fL (g 2) ++ fL (g 3) ++ fL (g 4) ++ fL (g 5) ++ fL (g 6) ++ l) := by
 subst h;exact ⟨rfl, rfl, rfl, rfl, rfl, rfl, rfl, rfl⟩
theorem ZcO (g : Nat → Fl) : (∀ t : List UInt8, (g 0).dur ≤ (g 0).data.length → AY (Aj g) 1 [.st ((g 0).data.drop (g 0).dur ++ t)] = Aj (Dm.upd g 0 ⟨(g 0).data ++ t, (g 0).dur⟩)) ∧ (∀ t : List UInt8, (g 1).dur ≤ (g 1).data.length → AY (Aj g) 3 [.st ((g 1).data.drop (g 1).dur ++ t)] = Aj (Dm.upd g 1 ⟨(g 1).data ++ t, (g 1).dur⟩)) ∧ (∀ t : List UInt8, (g 2).dur ≤ (g 2).data.length → AY (Aj g) 5 [.st ((g 2).data.drop (g 2).dur ++ t)] = Aj (Dm.upd g 2 ⟨(g 2).data ++ t, (g 2).dur⟩)) ∧ (∀ t : List UInt8, (g 3).dur ≤ (g 3).data.length → AY (Aj g) 7 [.st ((g 3).data.drop (g 3).dur ++ t)] = Aj (Dm.upd g 3 ⟨(g 3).data ++ t, (g 3).dur⟩)) ∧ (∀ t : List UInt8, (g 4).dur ≤ (g 4).data.length → AY (Aj g) 9 [.st ((g 4).data.drop (g 4).dur ++ t)] = Aj (Dm.upd g 4 ⟨(g 4).data ++ t, (g 4).dur⟩)) ∧ (∀ t : List UInt8, (g 5).dur ≤ (g 5).data.length → AY (Aj g) 11 [.st ((g 5).data.drop (g 5).dur ++ t)] = Aj (Dm.upd g 5 ⟨(g 5).data ++ t, (g 5).dur⟩)) ∧ (∀ t : List UInt8, (g 6).dur ≤ (g 6).data.length → AY (Aj g) 13 [.st ((g 6).data.drop (g 6).dur ++ t)] = Aj (Dm.upd g 6 ⟨(g 6).data ++ t, (g 6).dur⟩)) ∧ (∀ t : List UInt8, (g 7).dur ≤ (g 7).data.length → AY (Aj g) 15 [.st ((g 7).data.drop (g 7).dur ++ t)] = Aj (Dm.upd g 7 ⟨(g 7).data ++ t, (g 7).dur⟩)) := by
 refine ⟨?_, ?_, ?_, ?_, ?_, ?_, ?_, ?_⟩
 all_goals
  intro t h;obtain ⟨h0, h1, h2, h3, h4, h5, h6, h7⟩ := TS g _ _ (Zdo t h);first | rw [h0]; rfl | rw [h1]; rfl | rw [h2]; rfl | rw [h3]; rfl | rw [h4]; rfl | rw [h5]; rfl | rw [h6]; rfl | rw [h7]; rfl
theorem IV {d : Dk} (h : d.armed = 0) (e : Int) : struck d e = (e, d) := by
 have : strikes d = (false, d) := by unfold strikes; rw [if_pos h]
 unfold struck; rw [this]; rfl
theorem Za8 (d : Dk) (ho : Ok d) (h0 : d.armed = 0) (f : Int) (t : List UInt8) (ht : t.length ≤ 140737488355328) : AC prog 107 [.ptr 0 0, .it .i64 f, .st t] (RD d) (.it .i64 (appendD d f t).1) (RD (appendD d f t).2) := by
 refine As [] [] func107 ?_;have kc := N8 d f t;have km := Mg d f;have ks := N7 d ho f;cases hd : d.down with
 | true =>
  have hp : appendD d f t = (8, d) := by unfold appendD; rw [hd]; rfl
  rw [hp];rw [hd] at km;refine run ?_;refine Au kc ?_;refine run ?_;refine Au km ?_;refine run ?_;exact Aq (List.range 2) (by rfl) (BJ d) (by rfl) (by rfl) (by rfl)
 | false =>
  rw [hd] at km;cases hk : kn f with
  | false =>
   have hp : appendD d f t = (1, d) := by unfold appendD; rw [hd, hk]; exact IV h0 1
   rw [hp];rw [hk] at km;refine run ?_;refine Au kc ?_;refine run ?_;refine Au km ?_;refine run ?_;exact Aq (List.range 2) (by rfl) (BJ d) (by rfl) (by rfl) (by rfl)
  | true =>
   rw [hk] at km;have hsz : size d f = (d.fs f.toNat).data.length := by unfold size; rw [hk]; rfl
   have hlen := (ho.fs f.toNat).len;by_cases hfull : 16777216 < (d.fs f.toNat).data.length + t.length
   ·have hp : appendD d f t = (7, d) := by unfold appendD; rw [hd, hk]; simp only [Bool.false_eq_true, if_false, Bool.not_true]; rw [if_pos hfull]; exact IV h0 7
    rw [hp];have e1 : (size d f : Int) + (t.length : Int) > 16777216 := by omega
    have e2 : size d f ≤ 16777216 := by omega
    refine run ?_;refine Au kc ?_;refine run ?_;refine Au km ?_;refine run ?_;refine Au ks ?_;refine Aa (an @e2 @e1) ?_;exact Aq (List.range 2) (by rfl) (BJ d) (by rfl) (by rfl) (by rfl)
   ·have hp : appendD d f t = (0, { d with fs := Dm.upd d.fs f.toNat ⟨(d.fs f.toNat).data ++ t, (d.fs f.toNat).dur⟩ }) := by unfold appendD; rw [hd, hk]; simp only [Bool.false_eq_true, if_false, Bool.not_true]; rw [if_neg hfull]; exact IV (by exact h0) 0
    rw [hp];have e1 : ¬ (size d f : Int) + (t.length : Int) > 16777216 := by omega
    have e2 : size d f ≤ 16777216 := by omega
    have hdu := (ho.fs f.toNat).dur;have hl2 : ((d.fs f.toNat).data.drop (d.fs f.toNat).dur).length + t.length ≤ 16777216 := by rw [List.length_drop]; omega
    clear hp hsz hlen hfull;have hG := Jm d.fs;have hA := ZcO d.fs;refine run ?_;refine Au kc ?_;refine run ?_;refine Au km ?_;refine run ?_;refine Au ks ?_;obtain rfl | rfl | rfl | rfl | rfl | rfl | rfl | rfl := GT hk;all_goals
     simp only [Int.toNat_zero, Int.reduceToNat] at hdu hl2 ⊢;obtain ⟨a0, a1, a2, a3, a4, a5, a6, a7⟩ := hA;refine Aa (A4 @e2 @e1 @hG @hl2) ?_;first | rw [a0 t hdu] | rw [a1 t hdu] | rw [a2 t hdu] | rw [a3 t hdu] | rw [a4 t hdu] | rw [a5 t hdu] | rw [a6 t hdu] | rw [a7 t hdu]
     exact Aq (List.range 2) (by rfl) (IW _ rfl rfl) (by rfl) (by rfl) (by rfl)
theorem OY (g : Nat → Fl) : (∀ f : Fl, AY (Aj g) 0 (fL f) = Aj (Dm.upd g 0 f)) ∧ (∀ f : Fl, AY (Aj g) 2 (fL f) = Aj (Dm.upd g 1 f)) ∧ (∀ f : Fl, AY (Aj g) 4 (fL f) = Aj (Dm.upd g 2 f)) ∧ (∀ f : Fl, AY (Aj g) 6 (fL f) = Aj (Dm.upd g 3 f)) ∧ (∀ f : Fl, AY (Aj g) 8 (fL f) = Aj (Dm.upd g 4 f)) ∧ (∀ f : Fl, AY (Aj g) 10 (fL f) = Aj (Dm.upd g 5 f)) ∧ (∀ f : Fl, AY (Aj g) 12 (fL f) = Aj (Dm.upd g 6 f)) ∧ (∀ f : Fl, AY (Aj g) 14 (fL f) = Aj (Dm.upd g 7 f)) := ⟨fun _ => rfl, fun _ => rfl, fun _ => rfl, fun _ => rfl, fun _ => rfl, fun _ => rfl, fun _ => rfl, fun _ => rfl⟩
theorem JN {d : Dk} (h : d.armed = 0) (hd : d.down = false) {f : Int} (hk : kn f = true) : beginD d [f] = (0, d) := by
 unfold beginD;rw [hd, IV h];simp [hk]
theorem Qw {d : Dk} (h : d.armed = 0) (hd : d.down = false) {f : Int} (hk : kn f = false) : beginD d [f] = (1, d) := by
 unfold beginD;rw [hd, IV h];simp [hk]
theorem RU (d : Dk) (ho : Ok d) (h0 : d.armed = 0) (f : Int) : AC prog 87 [.ptr 0 0, .it .i64 f] (RD d) (.it .i64 (flushD d f).1) (RD (flushD d f).2) := by
 refine As [] [] func87 ?_;have kc := N8 d 0 [];have km := Mg d f;cases hd : d.down with
 | true =>
  have hp : flushD d f = (8, d) := by unfold flushD beginD; rw [hd]; rfl
  rw [hp];rw [hd] at km;refine run ?_;refine Au kc ?_;refine run ?_;refine Au km ?_;refine run ?_;exact Aq (List.range 2) (by rfl) (BJ d) (by rfl) (by rfl) (by rfl)
 | false =>
  rw [hd] at km;cases hk : kn f with
  | false =>
   have hp : flushD d f = (1, d) := by unfold flushD; rw [Qw h0 hd hk]; rfl
   rw [hp];rw [hk] at km;refine run ?_;refine Au kc ?_;refine run ?_;refine Au km ?_;refine run ?_;exact Aq (List.range 2) (by rfl) (BJ d) (by rfl) (by rfl) (by rfl)
  | true =>
   rw [hk] at km;by_cases hl : 0 < d.lost
   ·have hp : flushD d f = (18, { d with lost := d.lost - 1 }) := by unfold flushD; rw [JN h0 hd hk]; simp only [ne_eq, not_true_eq_false, if_false]; rw [if_pos hl]
    rw [hp];have e1 : (d.lost : Int) > 0 := by omega
    have e2 : (d.lost : Int) - 1 = ((d.lost - 1 : Nat) : Int) := by omega
    have e3 := ho.lost;refine run ?_;refine Au kc ?_;refine run ?_;refine Au km ?_;refine Aa (an @e1 @e2) ?_;exact Aq (List.range 2) (by rfl) (IW _ rfl rfl) (by rfl) (by rfl) (by rfl)
   ·have hp : flushD d f = (0, { d with fs := Dm.upd d.fs f.toNat ⟨(d.fs f.toNat).data, (d.fs f.toNat).data.length⟩ }) := by unfold flushD; rw [JN h0 hd hk]; simp only [ne_eq, not_true_eq_false, if_false]; rw [if_neg hl]
    rw [hp];have e1 : ¬ (d.lost : Int) > 0 := by omega
    have hlen := (ho.fs f.toNat).len;have hl1 : ((d.fs f.toNat).data.take (d.fs f.toNat).dur).length + ((d.fs f.toNat).data.drop (d.fs f.toNat).dur).length ≤ 16777216 := by rw [List.length_take, List.length_drop]; omega
    have hfl : fL ⟨(d.fs f.toNat).data, (d.fs f.toNat).data.length⟩ = [.st ((d.fs f.toNat).data.take (d.fs f.toNat).dur ++ (d.fs f.toNat).data.drop (d.fs f.toNat).dur), .st []] := by
     show [AV.st _, AV.st _] = _
     rw [List.take_length, List.drop_length, List.take_append_drop]
    clear hp hlen;have hG := Jm d.fs;refine run ?_;refine Au kc ?_;refine run ?_;refine Au km ?_;obtain ⟨u0, u1, u2, u3, u4, u5, u6, u7⟩ := OY d.fs;obtain rfl | rfl | rfl | rfl | rfl | rfl | rfl | rfl := GT hk;all_goals
     simp only [Int.toNat_zero, Int.reduceToNat] at hl1 hfl ⊢;refine Aa (A3 @e1 @hG @hl1) ?_;rw [← hfl];first | rw [u0] | rw [u1] | rw [u2] | rw [u3] | rw [u4] | rw [u5] | rw [u6] | rw [u7]
     exact Aq (List.range 2) (by rfl) (IW _ rfl rfl) (by rfl) (by rfl) (by rfl)
theorem TR (g : Nat → Fl) : (Aj g).take 2 = [.st ((g 0).data.take (g 0).dur), .st ((g 0).data.drop (g 0).dur)] ∧ ((Aj g).drop 2).take 2 = [.st ((g 1).data.take (g 1).dur), .st ((g 1).data.drop (g 1).dur)] ∧ ((Aj g).drop 4).take 2 = [.st ((g 2).data.take (g 2).dur), .st ((g 2).data.drop (g 2).dur)] ∧ ((Aj g).drop 6).take 2 = [.st ((g 3).data.take (g 3).dur), .st ((g 3).data.drop (g 3).dur)] ∧ ((Aj g).drop 8).take 2 = [.st ((g 4).data.take (g 4).dur), .st ((g 4).data.drop (g 4).dur)] ∧ ((Aj g).drop 10).take 2 = [.st ((g 5).data.take (g 5).dur), .st ((g 5).data.drop (g 5).dur)] ∧ ((Aj g).drop 12).take 2 = [.st ((g 6).data.take (g 6).dur), .st ((g 6).data.drop (g 6).dur)] ∧ ((Aj g).drop 14).take 2 = [.st ((g 7).data.take (g 7).dur), .st ((g 7).data.drop (g 7).dur)] := ⟨rfl, rfl, rfl, rfl, rfl, rfl, rfl, rfl⟩
theorem ZcN (g : Nat → Fl) : (∀ f : Fl, ∀ t : List UInt8, fL f = [.st ((g 0).data.take (g 0).dur), .st t] → AY (Aj g) 1 [.st t] = Aj (Dm.upd g 0 f)) ∧ (∀ f : Fl, ∀ t : List UInt8, fL f = [.st ((g 1).data.take (g 1).dur), .st t] → AY (Aj g) 3 [.st t] = Aj (Dm.upd g 1 f)) ∧ (∀ f : Fl, ∀ t : List UInt8, fL f = [.st ((g 2).data.take (g 2).dur), .st t] → AY (Aj g) 5 [.st t] = Aj (Dm.upd g 2 f)) ∧ (∀ f : Fl, ∀ t : List UInt8, fL f = [.st ((g 3).data.take (g 3).dur), .st t] → AY (Aj g) 7 [.st t] = Aj (Dm.upd g 3 f)) ∧ (∀ f : Fl, ∀ t : List UInt8, fL f = [.st ((g 4).data.take (g 4).dur), .st t] → AY (Aj g) 9 [.st t] = Aj (Dm.upd g 4 f)) ∧ (∀ f : Fl, ∀ t : List UInt8, fL f = [.st ((g 5).data.take (g 5).dur), .st t] → AY (Aj g) 11 [.st t] = Aj (Dm.upd g 5 f)) ∧ (∀ f : Fl, ∀ t : List UInt8, fL f = [.st ((g 6).data.take (g 6).dur), .st t] → AY (Aj g) 13 [.st t] = Aj (Dm.upd g 6 f)) ∧ (∀ f : Fl, ∀ t : List UInt8, fL f = [.st ((g 7).data.take (g 7).dur), .st t] → AY (Aj g) 15 [.st t] = Aj (Dm.upd g 7 f)) := by
 refine ⟨?_, ?_, ?_, ?_, ?_, ?_, ?_, ?_⟩
 all_goals
  intro f t h;obtain ⟨h0, h1, h2, h3, h4, h5, h6, h7⟩ := TS g _ _ h;first | rw [h0]; rfl | rw [h1]; rfl | rw [h2]; rfl | rw [h3]; rfl | rw [h4]; rfl | rw [h5]; rfl | rw [h6]; rfl | rw [h7]; rfl
theorem LT (a b : SObj) (T : Ae) (hk : [a, b].all (SObj.ok 2) = true) : SubOk (List.range 2) (a :: b :: T) [a, b] := HZ (S := [a, b]) (T := T) 2 rfl hk
theorem Zdm (f : Fl) (h : f.dur ≤ f.data.length) (n : Nat) : (n ≤ f.dur → fL (f.trunc n) = [.st ((f.data.take f.dur).take n), .st []]) ∧ (f.dur < n → fL (f.trunc n) = [.st (f.data.take f.dur), .st ((f.data.drop f.dur).take (n - f.dur))]) := by
 refine ⟨fun hn => ?_, fun hn => ?_⟩
 ·show [AV.st ((f.data.take n).take (min f.dur n)), AV.st ((f.data.take n).drop (min f.dur n))] = _
  rw [Nat.min_eq_right hn, List.take_take, Nat.min_self, List.take_take, Nat.min_eq_left hn, List.drop_eq_nil_of_le (by rw [List.length_take]; omega)]
 ·show [AV.st ((f.data.take n).take (min f.dur n)), AV.st ((f.data.take n).drop (min f.dur n))] = _
  rw [Nat.min_eq_left (by omega), List.take_take, Nat.min_eq_left (by omega), List.drop_take]
theorem RV (d : Dk) (ho : Ok d) (h0 : d.armed = 0) (f n : Int) : AC prog 85 [.ptr 0 0, .it .i64 f, .it .i64 n] (RD d) (.it .i64 (cutD d f n).1) (RD (cutD d f n).2) := by
 refine As [] [] func85 ?_;have kc := N8 d 0 [];have km := Mg d f;have ks := N7 d ho f;cases hd : d.down with
 | true =>
  have hp : cutD d f n = (8, d) := by unfold cutD beginD; rw [hd]; rfl
  rw [hp];rw [hd] at km;refine run ?_;refine Au kc ?_;refine run ?_;refine Au km ?_;refine run ?_;exact Aq (List.range 2) (by rfl) (BJ d) (by rfl) (by rfl) (by rfl)
 | false =>
  rw [hd] at km;cases hk : kn f with
  | false =>
   have hp : cutD d f n = (1, d) := by unfold cutD; rw [Qw h0 hd hk]; rfl
   rw [hp];rw [hk] at km;refine run ?_;refine Au kc ?_;refine run ?_;refine Au km ?_;refine run ?_;exact Aq (List.range 2) (by rfl) (BJ d) (by rfl) (by rfl) (by rfl)
  | true =>
   rw [hk] at km;by_cases hn0 : n < 0
   ·have hp : cutD d f n = (1, d) := by unfold cutD; rw [JN h0 hd hk]; simp only [ne_eq, not_true_eq_false, if_false]; rw [if_pos (.inl hn0)]
    rw [hp];refine run ?_;refine Au kc ?_;refine run ?_;refine Au km ?_;refine Aa @hn0 ?_;exact Aq (List.range 2) (by rfl) (BJ d) (by rfl) (by rfl) (by rfl)
   by_cases hn1 : n > (size d f : Int)
   ·have hp : cutD d f n = (1, d) := by unfold cutD; rw [JN h0 hd hk]; simp only [ne_eq, not_true_eq_false, if_false]; rw [if_pos (.inr hn1)]
    rw [hp];refine run ?_;refine Au kc ?_;refine run ?_;refine Au km ?_;refine Aa @hn0 ?_;refine Au ks ?_;refine Aa @hn1 ?_;exact Aq (List.range 2) (by rfl) (BJ d) (by rfl) (by rfl) (by rfl)
   have hp : cutD d f n = (0, { d with fs := Dm.upd d.fs f.toNat ((d.fs f.toNat).trunc n.toNat) }) := by unfold cutD; rw [JN h0 hd hk]; simp only [ne_eq, not_true_eq_false, if_false]; rw [if_neg (by omega)]
   rw [hp];obtain ⟨m, rfl⟩ := Int.eq_ofNat_of_zero_le (by omega : 0 ≤ n)
   have hsz : size d f = (d.fs f.toNat).data.length := by unfold size; rw [hk]; rfl
   have hdu := (ho.fs f.toNat).dur;have hlen := (ho.fs f.toNat).len;obtain ⟨w1, w2⟩ := Zdm (d.fs f.toNat) hdu m;have hlt : ((d.fs f.toNat).data.take (d.fs f.toNat).dur).length = (d.fs f.toNat).dur := by rw [List.length_take]; omega
   have hld : ((d.fs f.toNat).data.drop (d.fs f.toNat).dur).length = (d.fs f.toNat).data.length - (d.fs f.toNat).dur := List.length_drop;clear hp;rw [Int.toNat_natCast];have hG := Jm d.fs;have hS := TR d.fs;obtain ⟨u0, u1, u2, u3, u4, u5, u6, u7⟩ := OY d.fs;refine run ?_;refine Au kc ?_;refine run ?_;refine Au km ?_;refine Aa @hn0 ?_;refine Au ks ?_;by_cases hm : m ≤ (d.fs f.toNat).dur
   ·have hw := w1 hm
    clear w1 w2;obtain rfl | rfl | rfl | rfl | rfl | rfl | rfl | rfl := GT hk;all_goals
     simp only [Int.toNat_zero, Int.reduceToNat] at hw hdu hlt hm ⊢;refine Aa (A5 @hn1 @hG @hS @hlt @hm) ?_;rw [← hw];first | rw [u0] | rw [u1] | rw [u2] | rw [u3] | rw [u4] | rw [u5] | rw [u6] | rw [u7]
     exact Aq (List.range 2) (by rfl) (LT _ _ _ rfl) (by rfl) (by rfl) (by rfl)
   ·have hw := w2 (by omega)
    have hmd : ((m : Int) - ((d.fs f.toNat).dur : Int)) = ((m - (d.fs f.toNat).dur : Nat) : Int) := by omega
    have hmm : m - (d.fs f.toNat).dur ≤ (d.fs f.toNat).data.length - (d.fs f.toNat).dur := by omega
    clear w1 w2;obtain ⟨p0, p1, p2, p3, p4, p5, p6, p7⟩ := ZcN d.fs;obtain rfl | rfl | rfl | rfl | rfl | rfl | rfl | rfl := GT hk;all_goals
     simp only [Int.toNat_zero, Int.reduceToNat] at hw hdu hlt hld hm hmd hmm ⊢;refine Aa (A8 @hn1 @hG @hS @hlt @hld @hm @hmd @hmm) ?_;first | rw [p0 _ _ hw] | rw [p1 _ _ hw] | rw [p2 _ _ hw] | rw [p3 _ _ hw] | rw [p4 _ _ hw] | rw [p5 _ _ hw] | rw [p6 _ _ hw] | rw [p7 _ _ hw]
     exact Aq (List.range 2) (by rfl) (LT _ _ _ rfl) (by rfl) (by rfl) (by rfl)
end Pe
end
section
namespace Pe
open Tryz
open Go
variable [Tab]
set_option maxRecDepth 100000
def Be (n : Nat) : Nat := if n = 0 then 0 else Nat.log2 n + 1
theorem IB {n s : Nat} (h : 2 ^ s ≤ n) : Be n = Be (n / 2 ^ s) + s := by
 have hp : 0 < 2 ^ s := Nat.pow_pos (by omega)
 have h1 : 0 < n / 2 ^ s := Nat.div_pos h hp;unfold Be;rw [if_neg (by omega), if_neg (by omega)]
 have e : Nat.log2 n = Nat.log2 (n / 2 ^ s) + s := by
  have h2 := (Nat.log2_eq_iff (n := n / 2 ^ s) (k := Nat.log2 (n / 2 ^ s)) (by omega)).1 rfl
  refine (Nat.log2_eq_iff (by omega)).2 ⟨?_, ?_⟩
  ·rw [Nat.pow_add]
   exact (Nat.le_div_iff_mul_le hp).1 h2.1
  ·rw [show Nat.log2 (n / 2 ^ s) + s + 1 = (Nat.log2 (n / 2 ^ s) + 1) + s from by omega, Nat.pow_add]
   exact (Nat.div_lt_iff_lt_mul hp).1 h2.2
 omega
theorem Cw (n : Nat) (b : Int) (s : Nat) (h : b = (s : Int)) (h' : s ≤ 64) : Dd .u64 (n : Int) b = some (.it .u64 ((n / 2 ^ s : Nat) : Int)) := by
 subst h;unfold Dd;rw [if_pos (by omega)]
 congr 2
 rw [Int.toNat_natCast, show min s IntKind.u64.bits = s from Nat.min_eq_left h']
 rw [Int.fdiv_eq_ediv_of_nonneg _ (by exact Int.le_of_lt (Int.pow_pos (by omega)))]
 norm_cast
theorem GB (x : Nat) (h : x < 256) : IntKind.u8.wrap (x : Int) = (x : Int) := by
 rw [Ns];simp; omega
theorem Gl (x : Nat) : Be x ≤ x + 1 := by
 unfold Be;split
 ·omega
 ·have := Nat.log2_lt (n := x) (k := x) (by assumption)
  have := this.2 Nat.lt_two_pow_self;omega
theorem GC (L : List UInt8) (hL : ∀ x, x < 256 → L[x]? = some (UInt8.ofNat (Be x))) (x : Nat) (h : x < 256) : (if 0 ≤ (x : Int) then Option.map u8 L[x]? else none) = some (.it .u8 (Be x : Int)) := by
 rw [if_pos (by omega), hL x h]
 have : Be x < 256 := by
  have : Be x ≤ 8 := by
   unfold Be;split
   ·omega
   ·have := (Nat.log2_lt (n := x) (k := 8) (by assumption)).2 (by omega)
    omega
  omega
 simp only [u8, Option.map_some];congr 2
 simp; omega
set_option maxHeartbeats 2000000 in
theorem OG (n : Nat) (h : n < 18446744073709551616) : AC prog 120 [.it .u64 n] [] (.it .i64 (Be n)) [] := by
 have s8 : ∀ n : Nat, Dd .u64 (n : Int) 8 = some (.it .u64 ((n / 2 ^ 8 : Nat) : Int)) := fun n => Cw n 8 8 rfl (by omega)
 have s16 : ∀ n : Nat, Dd .u64 (n : Int) 16 = some (.it .u64 ((n / 2 ^ 16 : Nat) : Int)) := fun n => Cw n 16 16 rfl (by omega)
 have s32 : ∀ n : Nat, Dd .u64 (n : Int) 32 = some (.it .u64 ((n / 2 ^ 32 : Nat) : Int)) := fun n => Cw n 32 32 rfl (by omega)
 refine Ai [] [] func120 ?_;refine run ?_;refine Ge (fun h1 => ?_) (fun h1 => ?_)
 ·have l32 : 4294967296 ≤ n := by have := of_decide_eq_true h1; omega
  have e32 := IB (n := n) (s := 32) l32;have m32 : n / 2 ^ 32 < 4294967296 := by omega
  refine Aa (A3 @s32 @s16 @s8) ?_;generalize n / 2 ^ 32 = x at *;refine Ge (fun h1 => ?_) (fun h1 => ?_)
  ·have l16 : 65536 ≤ x := by have := of_decide_eq_true h1; omega
   have e16 := IB (n := x) (s := 16) l16;have m16 : x / 2 ^ 16 < 65536 := by omega
   refine Aa (A3 @s32 @s16 @s8) ?_;generalize x / 2 ^ 16 = y at *;refine Ge (fun h1 => ?_) (fun h1 => ?_)
   ·have l8 : 256 ≤ y := by have := of_decide_eq_true h1; omega
    have e8 := IB (n := y) (s := 8) l8;have m8 : y / 2 ^ 8 < 256 := by omega
    refine Aa (A3 @s32 @s16 @s8) ?_;generalize y / 2 ^ 8 = z at *;have t1 := GB z (by omega)
    have t3 := Gl z;refine Aa @t1 ?_;refine G6 _ (GC _ (by decide +kernel) z (by omega)) ?_
    refine Aa @Int.zero_add ?_;refine Ct (by rfl) (by rfl) ?_
    exact congrArg (AV.it .i64) (by omega)
   ·have l8 : y < 256 := by have := of_decide_eq_false h1; omega
    refine run ?_;have t1 := GB y (by omega)
    have t3 := Gl y;refine Aa @t1 ?_;refine G6 _ (GC _ (by decide +kernel) y (by omega)) ?_
    refine Aa @Int.zero_add ?_;refine Ct (by rfl) (by rfl) ?_
    exact congrArg (AV.it .i64) (by omega)
  ·have l16 : x < 65536 := by have := of_decide_eq_false h1; omega
   refine run ?_;refine Ge (fun h1 => ?_) (fun h1 => ?_)
   ·have l8 : 256 ≤ x := by have := of_decide_eq_true h1; omega
    have e8 := IB (n := x) (s := 8) l8;have m8 : x / 2 ^ 8 < 256 := by omega
    refine Aa (A3 @s32 @s16 @s8) ?_;generalize x / 2 ^ 8 = z at *;have t1 := GB z (by omega)
    have t3 := Gl z;refine Aa @t1 ?_;refine G6 _ (GC _ (by decide +kernel) z (by omega)) ?_
    refine Aa @Int.zero_add ?_;refine Ct (by rfl) (by rfl) ?_
    exact congrArg (AV.it .i64) (by omega)
   ·have l8 : x < 256 := by have := of_decide_eq_false h1; omega
    refine run ?_;have t1 := GB x (by omega)
    have t3 := Gl x;refine Aa @t1 ?_;refine G6 _ (GC _ (by decide +kernel) x (by omega)) ?_
    refine Aa @Int.zero_add ?_;refine Ct (by rfl) (by rfl) ?_
    exact congrArg (AV.it .i64) (by omega)
 ·have l32 : n < 4294967296 := by have := of_decide_eq_false h1; omega
  refine run ?_;refine Ge (fun h1 => ?_) (fun h1 => ?_)
  ·have l16 : 65536 ≤ n := by have := of_decide_eq_true h1; omega
   have e16 := IB (n := n) (s := 16) l16;have m16 : n / 2 ^ 16 < 65536 := by omega
   refine Aa (A3 @s32 @s16 @s8) ?_;generalize n / 2 ^ 16 = y at *;refine Ge (fun h1 => ?_) (fun h1 => ?_)
   ·have l8 : 256 ≤ y := by have := of_decide_eq_true h1; omega
    have e8 := IB (n := y) (s := 8) l8;have m8 : y / 2 ^ 8 < 256 := by omega
    refine Aa (A3 @s32 @s16 @s8) ?_;generalize y / 2 ^ 8 = z at *;have t1 := GB z (by omega)
    have t3 := Gl z;refine Aa @t1 ?_;refine G6 _ (GC _ (by decide +kernel) z (by omega)) ?_
    refine Aa @Int.zero_add ?_;refine Ct (by rfl) (by rfl) ?_
    exact congrArg (AV.it .i64) (by omega)
   ·have l8 : y < 256 := by have := of_decide_eq_false h1; omega
    refine run ?_;have t1 := GB y (by omega)
    have t3 := Gl y;refine Aa @t1 ?_;refine G6 _ (GC _ (by decide +kernel) y (by omega)) ?_
    refine Aa @Int.zero_add ?_;refine Ct (by rfl) (by rfl) ?_
    exact congrArg (AV.it .i64) (by omega)
  ·have l16 : n < 65536 := by have := of_decide_eq_false h1; omega
   refine run ?_;refine Ge (fun h1 => ?_) (fun h1 => ?_)
   ·have l8 : 256 ≤ n := by have := of_decide_eq_true h1; omega
    have e8 := IB (n := n) (s := 8) l8;have m8 : n / 2 ^ 8 < 256 := by omega
    refine Aa (A3 @s32 @s16 @s8) ?_;generalize n / 2 ^ 8 = z at *;have t1 := GB z (by omega)
    have t3 := Gl z;refine Aa @t1 ?_;refine G6 _ (GC _ (by decide +kernel) z (by omega)) ?_
    refine Aa @Int.zero_add ?_;refine Ct (by rfl) (by rfl) ?_
    exact congrArg (AV.it .i64) (by omega)
   ·have l8 : n < 256 := by have := of_decide_eq_false h1; omega
    refine run ?_;have t1 := GB n (by omega)
    have t3 := Gl n;refine Aa @t1 ?_;refine G6 _ (GC _ (by decide +kernel) n (by omega)) ?_
    refine Aa @Int.zero_add ?_;refine Ct (by rfl) (by rfl) ?_
    exact congrArg (AV.it .i64) (by omega)
end Pe
end
section
namespace Sg
open Tryz
open Go Co
def EM : Nat → Nat → Nat → Nat → Nat
 | 0, r, _, _ => r
 | f + 1, r, p, e => EM f (if e % 2 = 1 then r * p % 2305843009213693951 else r) (p * p % 2305843009213693951) (e / 2)
theorem Ke (f r p e : Nat) : EM (f + 1) r p e = EM f (if e % 2 = 1 then r * p % 2305843009213693951 else r) (p * p % 2305843009213693951) (e / 2) := rfl
theorem Oe : ∀ (f r p : Nat), EM f r p 0 = r
 | 0, _, _ => rfl
 | f + 1, r, p => by rw [Ke, if_neg (by simp), Nat.zero_div, Oe f]
theorem Se : ∀ (f r p e : Nat), r < 2305843009213693951 → EM f r p e < 2305843009213693951
 | 0, _, _, _, h => h
 | f + 1, r, p, e, h => by
  rw [Ke];refine Se f _ _ _ ?_
  split
  ·exact Nat.mod_lt _ (by decide)
  ·exact h
theorem Sf : ∀ (f r p e : Nat), r < 2305843009213693951 → EM f r p e = r * p ^ (e % 2 ^ f) % 2305843009213693951
 | 0, r, p, e, h => by
  show r = _
  rw [Nat.pow_zero, Nat.mod_one, Nat.pow_zero, Nat.mul_one, Nat.mod_eq_of_lt h]
 | f + 1, r, p, e, h => by
  have hlt : (if e % 2 = 1 then r * p % 2305843009213693951 else r) < 2305843009213693951 := by
   split
   ·exact Nat.mod_lt _ (by decide)
   ·exact h
  rw [Ke, Sf f _ _ _ hlt];have he : e % 2 ^ (f + 1) = e % 2 + 2 * (e / 2 % 2 ^ f) := by rw [Nat.pow_succ, Nat.mul_comm (2 ^ f) 2, Nat.mod_mul]
  rw [he, Nat.pow_add, Nat.pow_mul];generalize e / 2 % 2 ^ f = k;have h1 : (p * p % 2305843009213693951) ^ k % 2305843009213693951 = (p ^ 2) ^ k % 2305843009213693951 := by rw [← Nat.pow_mod, Nat.pow_two]
  split
  ·rename_i h2
   rw [h2, Nat.pow_one, ← Nat.mul_assoc];rw [Nat.mul_mod, h1, Nat.mod_mod, ← Nat.mul_mod]
  ·rename_i h2
   rw [show e % 2 = 0 from by omega, Nat.pow_zero, Nat.one_mul, Nat.mul_mod, h1, ← Nat.mul_mod]
def Br (b e : Nat) : Nat := EM 64 1 (b % 2305843009213693951) e
theorem Kc (b e : Nat) : Br b e < 2305843009213693951 := Se _ _ _ _ (by decide)
theorem Jd (b : Nat) {e : Nat} (h : e < 2 ^ 64) : Br b e = b ^ e % 2305843009213693951 := by
 unfold Br;rw [Sf _ _ _ _ (by decide), Nat.mod_eq_of_lt h, Nat.one_mul, ← Nat.pow_mod]
theorem Zbt : Br 37 2305843009213693950 = 1 := by decide +kernel
theorem Sd : 37 ^ 2305843009213693950 % 2305843009213693951 = 1 := by rw [← Jd 37 (show 2305843009213693950 < 2 ^ 64 by decide)]; exact Zbt
theorem Sc (k : Nat) : 37 ^ (2305843009213693950 * k) % 2305843009213693951 = 1 := by
 rw [Nat.pow_mul, Nat.pow_mod, Sd, Nat.one_pow]
theorem Zbu (k : Nat) : 37 ^ (k % 2305843009213693950) % 2305843009213693951 = 37 ^ k % 2305843009213693951 := by
 have h : 37 ^ k % 2305843009213693951 = 37 ^ (2305843009213693950 * (k / 2305843009213693950)) * 37 ^ (k % 2305843009213693950) % 2305843009213693951 := by rw [← Nat.pow_add, Nat.div_add_mod]
 rw [h, Nat.mul_mod, Sc, Nat.one_mul, Nat.mod_mod]
def GY (a e : Int) : Nat := Br (a % (2305843009213693951 : Int)).toNat (if e < 0 then (e % (2305843009213693950 : Int)).toNat else e.toNat)
def Ig (a b : Int) : Nat := (a % 2305843009213693951).toNat * (b % 2305843009213693951).toNat % 2305843009213693951
def D3 (a b : Int) : Nat := (a % 2305843009213693950).toNat * (b % 2305843009213693950).toNat % 2305843009213693950
theorem Kk {x y : Nat} (hx : x < 2305843009213693951) (hy : y < 2305843009213693951) : Ig x y = x * y % 2305843009213693951 := by
 unfold Ig;rw [show ((x : Int) % 2305843009213693951).toNat = x by omega, show ((y : Int) % 2305843009213693951).toNat = y by omega]
def hash (s : By) : Nat := Sm.num (Sm.sha s)
theorem KB (s : By) : hash s < 2305843009213693952 := by
 have := Sm.nat8_lt (Sm.sha s) 8;unfold hash Sm.num;omega
def Fz (h : Nat) : Nat := 1 + h % (2305843009213693950 - 1)
theorem J7 (h : Nat) : 1 ≤ Fz h ∧ Fz h < 2305843009213693950 := by
 unfold Fz;have := Nat.mod_lt h (show 2305843009213693950 - 1 > 0 by decide)
 omega
abbrev E3 : By := [115, 105, 103, 110]
abbrev FX : By := [110, 111, 110, 99, 101]
abbrev Gz : By := [107, 101, 121]
def DE (r p : Int) (m : By) : Nat := hash (text E3 ++ Ah r ++ Ah p ++ text m) % 2305843009213693950
theorem MX (r p : Int) (m : By) : DE r p m < 2305843009213693950 := Nat.mod_lt _ (by decide)
structure Key where
 secret : Int
 pub : Int
 deriving DecidableEq
structure Sig where
 e : Int
 s : Int
 deriving DecidableEq
def keyOf (s : Int) : Key := if s < 1 ∨ 2305843009213693949 < s then ⟨0, 0⟩ else ⟨s, Br 37 s.toNat⟩
def Key.right (k : Key) : Bool := decide (1 ≤ k.secret) && decide (k = keyOf k.secret)
def Jj (seed : By) : Key := keyOf (Fz (hash (text Gz ++ text seed)))
def nonce (k : Key) (m : By) : Nat := Fz (hash (text FX ++ Ah k.secret ++ text m))
def Df (k : Key) (m : By) : Sig :=
 if k.right then ⟨DE (Br 37 (nonce k m)) k.pub m, ((nonce k m + DE (Br 37 (nonce k m)) k.pub m * k.secret.toNat) % 2305843009213693950 : Nat)⟩ else ⟨0, 0⟩
def Gg (n : Int) : Bool := decide (0 ≤ n) && decide (n < 2305843009213693950)
def Iw (p : Int) (s : Sig) : Nat := Br 37 s.s.toNat * Br p.toNat (2305843009213693950 - s.e).toNat % 2305843009213693951
def IU (p : Int) (m : By) (s : Sig) : Bool :=
 decide (1 ≤ p) && decide (p < 2305843009213693951) && Gg s.e && Gg s.s && decide (s.e = DE (Iw p s) p m)
theorem Key.right_iff {k : Key} : k.right = true ↔ 1 ≤ k.secret ∧ k.secret ≤ 2305843009213693949 ∧ k.pub = Br 37 k.secret.toNat := by
 unfold Key.right keyOf;obtain ⟨s, p⟩ := k;simp only [Bool.and_eq_true, decide_eq_true_eq];constructor
 ·rintro ⟨h1, h2⟩
  split at h2
  ·injection h2; omega
  ·injection h2 with h3 h4
   exact ⟨h1, by omega, h4⟩
 ·rintro ⟨h1, h2, h3⟩
  rw [if_neg (by omega)]
  exact ⟨h1, by rw [h3]⟩
theorem To {s : Int} (h1 : 1 ≤ s) (h2 : s ≤ 2305843009213693949) : (keyOf s).right = true := by
 unfold keyOf;rw [if_neg (by omega), Key.right_iff]
 exact ⟨h1, h2, rfl⟩
theorem Tn (seed : By) : (Jj seed).right = true := by
 have := J7 (hash (text Gz ++ text seed));exact To (by omega) (by omega)
theorem pow_pos {x : Nat} (h : x ≤ 2305843009213693950) : 37 ^ x % 2305843009213693951 ≠ 0 := by
 intro h0;have h1 : 37 ^ 2305843009213693950 % 2305843009213693951 = 37 ^ x * 37 ^ (2305843009213693950 - x) % 2305843009213693951 := by rw [← Nat.pow_add]; congr 2; omega
 rw [Nat.mul_mod, h0, Nat.zero_mul, Nat.zero_mod, Sd] at h1;exact absurd h1 (by decide)
theorem Od {k : Key} (h : k.right = true) : 1 ≤ k.pub ∧ k.pub < 2305843009213693951 := by
 obtain ⟨h1, h2, h3⟩ := Key.right_iff.1 h;have := Kc 37 k.secret.toNat;have h4 := Jd 37 (e := k.secret.toNat) (by omega)
 have h5 := pow_pos (x := k.secret.toNat) (by omega)
 rw [← h4] at h5;omega
theorem Zet (u e x : Nat) (he : e ≤ 2305843009213693950) : 37 ^ ((u + e * x) % 2305843009213693950) % 2305843009213693951 * ((37 ^ x % 2305843009213693951) ^ (2305843009213693950 - e) % 2305843009213693951) % 2305843009213693951 = 37 ^ u % 2305843009213693951 := by
 rw [Zbu, ← Nat.pow_mod, ← Nat.pow_mul, ← Nat.mul_mod, ← Nat.pow_add]
 have : u + e * x + x * (2305843009213693950 - e) = u + 2305843009213693950 * x := by
  rw [Nat.mul_comm e x, Nat.add_assoc, ← Nat.mul_add, Nat.add_sub_cancel' he, Nat.mul_comm]
 rw [this, Nat.pow_add, Nat.mul_mod, Sc, Nat.mul_one, Nat.mod_mod]
theorem Yk {k : Key} (h : k.right = true) (m : By) : IU k.pub m (Df k m) = true := by
 obtain ⟨p1, p2⟩ := Od h;obtain ⟨h1, h2, h3⟩ := Key.right_iff.1 h;have hu := J7 (hash (text FX ++ Ah k.secret ++ text m));change 1 ≤ nonce k m ∧ nonce k m < 2305843009213693950 at hu;unfold Df;rw [if_pos h];have he := MX (Br 37 (nonce k m)) k.pub m;have hs : (nonce k m + DE (Br 37 (nonce k m)) k.pub m * k.secret.toNat) % 2305843009213693950 < 2305843009213693950 := Nat.mod_lt _ (by decide)
 have hc : Iw k.pub ⟨DE (Br 37 (nonce k m)) k.pub m, ((nonce k m + DE (Br 37 (nonce k m)) k.pub m * k.secret.toNat) % 2305843009213693950 : Nat)⟩ = Br 37 (nonce k m) := by
  generalize DE (Br 37 (nonce k m)) k.pub m = e at *;unfold Iw;simp only [Int.toNat_natCast];rw [h3, Int.toNat_natCast, show (2305843009213693950 - (e : Int)).toNat = 2305843009213693950 - e from by omega]
  rw [Jd _ (show 2305843009213693950 - e < 2 ^ 64 by omega), Jd _ (show k.secret.toNat < 2 ^ 64 by omega), Jd _ (show (nonce k m + e * k.secret.toNat) % 2305843009213693950 < 2 ^ 64 by omega), Jd _ (show nonce k m < 2 ^ 64 by omega)]
  exact Zet _ _ _ (by omega)
 unfold IU;rw [hc];generalize DE (Br 37 (nonce k m)) k.pub m = e at *;generalize (nonce k m + e * k.secret.toNat) % 2305843009213693950 = s at *;simp only [Gg, Bool.and_eq_true, decide_eq_true_eq];refine ⟨⟨⟨⟨p1, p2⟩, ?_, ?_⟩, ?_, ?_⟩, trivial⟩ <;> omega
theorem Y3 (k : Key) (m : By) : 0 ≤ (Df k m).e ∧ (Df k m).e ≤ 2305843009213693949 ∧ 0 ≤ (Df k m).s ∧ (Df k m).s ≤ 2305843009213693949 := by
 unfold Df;split
 ·have he := MX (Br 37 (nonce k m)) k.pub m
  have hs : (nonce k m + DE (Br 37 (nonce k m)) k.pub m * k.secret.toNat) % 2305843009213693950 < 2305843009213693950 := Nat.mod_lt _ (by decide)
  simp only
  omega
 ·simp
end Sg
end
section
end
end Go.Proofs.YtldohjjoicmfpaaGreatDoor
