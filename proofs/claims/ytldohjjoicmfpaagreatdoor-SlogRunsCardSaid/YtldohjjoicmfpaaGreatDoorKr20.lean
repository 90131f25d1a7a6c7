/- A part. -/
import Derived.Test.YtldohjjoicmfpaaGreatDoorKr19
import Derived.Below
import Derived.ChangeSame
import Derived.Test.YtldohjjoicmfpaaGreatDoorCards
import Derived.Test.YtldohjjoicmfpaaGreatDoorTie
import Derived.WalkKit
import Derived.ProofKit
import Derived.OpenShut
import Derived.Deep.DeepHandedRow
import Derived.Lib.LaidTab
import Derived.Stop.LaidErr
import Derived.ShutString
set_option linter.unusedSectionVars false
set_option linter.unusedVariables false
set_option linter.unusedSimpArgs false
namespace Go.Proofs.YtldohjjoicmfpaaGreatDoor
section
section
open Go Go.RowKit Go.WideShapes Go.ChangeShapes
section
variable {H : Type} {enc : TypeId × Value → H} {P : Program}
theorem Zbw {f : Func} {s : ChangeSpec} {apart fresh handsOn again : Bool} {W W' : World} {args : Array Value} {v : Value} {ds gs : List (DataW H)} {before pa pv : List MemPlace}
  (hW : DataW.Whole enc P f.params.toList s.vars apart W args.toList ds gs before)
  (hres : ∀ (b : Nat) (sp : Nat → Bool) (hd : Bool), DataW.TrodAll enc P W' b sp hd f.resultTypes.toList (v.resultList f.resultTypes.size) (s.fn H (ds ++ gs)).results [])
  (hargs : ∀ sp : Nat → Bool, (∀ p ∈ before, sp p.block = true) → DataW.TrodAll enc P W' 0 sp true f.params.toList args.toList (s.fn H (ds ++ gs)).args pa)
  (hvars : ∀ sp : Nat → Bool, (∀ p ∈ before, sp p.block = true) → DataW.TrodVars enc P W' sp s.vars (s.fn H (ds ++ gs)).vars pv)
  (hps : before = pa ++ pv) (hb : Below W.heap.size W W')
  (hok : ∀ (j : Nat) (t : TypeId) (r : Value), f.resultTypes[j]? = some t → (v.resultList f.resultTypes.size)[j]? = some r → Value.okWide P W' .any 0 t r) :
  s.post enc P f apart fresh handsOn again W args v W' := by
 have hlt : ∀ p ∈ before, p.block < W.heap.size := fun p hp => hW.lt p hp
 have hold : ∀ p ∈ before, (fun b => decide (b < W.heap.size)) p.block = true := fun p hp => by simpa using hlt p hp
 refine ⟨ds, gs, before, [], pa, pv, hW, hres _ _ _, hargs _ hold, hvars _ hold, World.keptBut_mono (fun p hp => ⟨hp, ?_⟩) (hb.frame (· ∈ before)), fun _ => ?_⟩
 ·rw [hps, List.mem_append] at hp
  exact Or.inr hp
 ·obtain ⟨_, _, _, _, _, hz, hn⟩ := hW
  refine ⟨hok, _, _, ([] ++ pa) ++ pv, ⟨[] ++ pa, pv, trodAll_append (hargs _ (fun _ _ => rfl)) (hres _ _ _), hvars _ (fun _ _ => rfl), rfl, ?_, ?_⟩, ?_⟩
  ·intro b off hp
   have hin : MemPlace.cell b off ∈ before := by rw [hps]; simpa using hp
   rw [hb.frozen (hlt _ hin)];exact hz b off hin
  ·intro ha
   have := hn ha;rw [hps] at this;simpa using this
  ·intro p hp _
   rw [hps];simpa using hp
end
end
end
section
section
open Go Go.RowKit Sm
theorem own : ownKnob Tryz.prog.godebug = none := by kernel_rfl
theorem gK : Tryz.prog.globalNamed "agora/sum.constants" = some 1 := by kernel_rfl
theorem gI : Tryz.prog.globalNamed "agora/sum.initial" = some 0 := by kernel_rfl
theorem ZcD : (Tryz.prog.globals[1]?).map (·.type) = some 222 := by kernel_rfl
theorem ZcE : (Tryz.prog.globals[0]?).map (·.type) = some 165 := by kernel_rfl
theorem ZeE : Tryz.prog.cellsOf 222 = 64 := by kernel_rfl
theorem ZeF : Tryz.prog.cellsOf 165 = 8 := by kernel_rfl
theorem Vv : Tryz.prog.cellsOf 164 = 1 := by kernel_rfl
def Nn : List Int := [1116352408, 1899447441, 3049323471, 3921009573, 961987163, 1508970993, 2453635748, 2870763221, 3624381080, 310598401, 607225278, 1426881987, 1925078388, 2162078206, 2614888103, 3248222580, 3835390401, 4022224774, 264347078, 604807628, 770255983, 1249150122, 1555081692, 1996064986, 2554220882, 2821834349, 2952996808, 3210313671, 3336571891, 3584528711, 113926993, 338241895, 666307205, 773529912, 1294757372, 1396182291, 1695183700, 1986661051, 2177026350, 2456956037, 2730485921, 2820302411, 3259730800, 3345764771, 3516065817, 3600352804, 4094571909, 275423344, 430227734, 506948616, 659060556, 883997877, 958139571, 1322822218, 1537002063, 1747873779, 1955562222, 2024104815, 2227730452, 2361852424, 2428436474, 2756734187, 3204031479, 3329325298]
def No : List Int := [1779033703, 3144134277, 1013904242, 2773480762, 1359893119, 2600822924, 528734635, 1541459225]
theorem XS : Nn = Ed.map (fun x => (x.toNat : Int)) := by decide +kernel
theorem XT : No = BA.list.map (fun x => (x.toNat : Int)) := by decide +kernel
theorem Qg (l : List (BitVec 32)) (i : Nat) (hi : i < l.length) : Value.int .u32 ((l.map (fun x => (x.toNat : Int))).getD i 0) = Ag (l.getD i 0) := by
 simp only [List.getD_eq_getElem?_getD, List.getElem?_map, List.getElem?_eq_getElem hi]
 rfl
def Zcl : List (String × DataW Unit) := [("agora/sum.constants", Rows.laid_agora_sum_constants), ("agora/sum.initial", Rows.laid_agora_sum_initial)]
theorem YF {W : World} (h : laidMetH Tryz.prog Zcl W) : C2 W := by
 have h1 : laidMet Tryz.prog (("agora/sum.constants", Lib.tabData .u32 Nn) :: [("agora/sum.initial", Lib.tabData .u32 No)]) W := h;have k1 := Lib.tabIs_of_head gK ZcD Tryz.underlying222 Tryz.underlying164 Vv ZeE h1;have k2 := Lib.tabIs_of_head gI ZcE Tryz.underlying165 Tryz.underlying164 Vv ZeF (laidMet.tail h1);refine ⟨fun i hi => ?_, fun i hi => ?_⟩
 ·rw [k1.cell gK i hi, XS, Qg Ed i hi]
 ·rw [k2.cell gI i hi, XT, Qg BA.list i hi]
def Qk (cs : Array Value) : Obj → Obj
 | .cells _ t frozen => .cells cs t frozen
 | o => o
noncomputable def OJ (os : Os) : World :=
 { World.holding Tryz.prog os ⟨#[], #[], []⟩ with heap := ((World.holding Tryz.prog os ⟨#[], #[], []⟩).heap.modify 1 (Qk (Nn.map (Value.int .u32)).toArray)).modify 0 (Qk (No.map (Value.int .u32)).toArray) }
theorem YG {W : World} (h : C2 W) : ∀ b i v, (Pe.tabs).T b i = some v → W.cell? ⟨b, i, none⟩ = some v := by
 intro b i v hv;have hv' : (if b = 1 ∧ i < 64 then some (Ag (Ed.getD i 0)) else if b = 0 ∧ i < 8 then some (Ag (BA.list.getD i 0)) else none) = some v := hv
 split at hv'
 ·rename_i hc
  obtain ⟨rfl, hi⟩ := hc;rw [h.1 i hi]; exact hv'
 ·split at hv'
  ·rename_i hc
   obtain ⟨rfl, hi⟩ := hc;rw [h.2 i hi]; exact hv'
  ·cases hv'
theorem Zck : laidOutB Tryz.prog = true := by kernel_rfl
end
end
section
namespace Pe
open _root_.Go.Proofs.Tryz
open Go Go.RowKit Co Sg Ac It Sl Ql
set_option maxRecDepth 100000
set_option maxHeartbeats 4000000
theorem Zb {n us} (h : Bm prog 140737488351232 (n + 3) 44 us) : ∃ x : Stp, us = (Fw x).cells ∧ Win15 x := by
 have h := E4 underlying44 h;obtain ⟨a0, b0, rfl, h0, h⟩ := h;obtain ⟨a1, b1, rfl, h1, h⟩ := h;obtain ⟨a2, b2, rfl, h2, h⟩ := h;obtain ⟨a3, b3, rfl, h3, rfl⟩ := h;obtain ⟨i0, rfl, w0⟩ := Bt underlying3 h0;obtain ⟨i1, rfl, w1⟩ := Bt underlying3 h1;obtain ⟨i2, rfl, w2⟩ := Bt underlying3 h2;obtain ⟨l3, rfl, w3⟩ := Zf h3;exact ⟨⟨i0, i1, i2, l3⟩, rfl, w0, w1, w2, by have := w3.1; omega⟩
theorem Za {n us} (h : Bm prog 140737488351232 (n + 4) 23 us) : ∃ l : List Stp, us = [.sl .ro (l.map Fw)] ∧ l.length ≤ 140737488351232 ∧ ∀ x ∈ l, Win15 x :=
 JW Fw Win15 underlying23 h fun x hx => by
  obtain ⟨a, rfl, ha⟩ := Zb hx;exact ⟨a, by rw [show EC prog 44 = true from by kernel_rfl]; rfl, ha⟩
theorem Zd {n us} (h : Bm prog 140737488351232 (n + 7) 22 us) : ∃ l : List It.Item, us = [.sl .ro (l.map Bc)] ∧ l.length ≤ 140737488351232 ∧ ∀ x ∈ l, Iz x :=
 JW Bc Iz underlying22 h fun x hx => by
  obtain ⟨a, rfl, ha⟩ := Ze hx;exact ⟨a, by rw [show EC prog 60 = true from by kernel_rfl]; rfl, ha.iz⟩
theorem shp_scr {n us} (h : Bm prog 140737488351232 (n + 8) 25 us) : ∃ s : Scr, us = (NU s).cells ∧ WinS s := by
 have h := E4 underlying25 h;obtain ⟨a0, b0, rfl, h0, h⟩ := h;obtain ⟨a1, b1, rfl, h1, h⟩ := h;obtain ⟨a2, b2, rfl, h2, h⟩ := h;obtain ⟨a3, b3, rfl, h3, rfl⟩ := h;obtain ⟨s0, rfl, w0⟩ := Dg underlying9 h0;obtain ⟨i1, rfl, w1⟩ := Bt underlying3 h1;obtain ⟨l2, rfl, w2, w2'⟩ := Zd h2;obtain ⟨l3, rfl, w3, w3'⟩ := Za h3;exact ⟨⟨s0, i1, l2, l3⟩, rfl, w0, w1, w2, w3, w3', w2'⟩
end Pe
end
end Go.Proofs.YtldohjjoicmfpaaGreatDoor
