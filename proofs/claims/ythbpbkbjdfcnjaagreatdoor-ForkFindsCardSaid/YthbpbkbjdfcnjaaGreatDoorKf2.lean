/- Several texts in one, without what this claim does not use (tools/shake.py). -/
import Derived.Test.YthbpbkbjdfcnjaaGreatDoorKf1
import Derived.WalkKit
import Derived.Lib.DecodeN
import Derived.MapKept
import Derived.Laws.MakeOwn
import Derived.Still
import Derived.Deep.LoopGhost
import Derived.Deep.Draws
import Derived.Laws.StructEq
import Derived.Laws.Strings
import Derived.Laws.PanicsMore
import Derived.Laws.Tables
import Derived.Below
import Derived.ChangeSame
import Derived.ProofKit
import Derived.OpenShut
import Derived.ShutString
import Derived.Deep.Strs
import Derived.SizedLaws
import Derived.Deep.Slices
import Derived.ChangeArms
import Derived.Laws.Entries
import Derived.WalkSpells
import Derived.WalkLawsBesides
import Derived.Laws.OwnMore
import Derived.Laws.IdiomStrings
import Derived.Deep.OwnRows
import Derived.StillTailTactics
import Derived.Test.YthbpbkbjdfcnjaaGreatDoorProg
import Derived.KernelRfl
import Derived.Shelf.Strings.Builder1
import Derived.Shelf.Strings.Builder2
import Derived.Shelf.Strings.OnBuilder
import Derived.Shelf.Bits.Mul64
import Derived.Test.YthbpbkbjdfcnjaaGreatDoorCards
import Derived.Test.YthbpbkbjdfcnjaaGreatDoorTie
import Derived.Deep.DeepHandedRow
import Derived.Lib.LaidTab
import Derived.Stop.LaidErr
import Derived.Carry
import Derived.Test.YthbpbkbjdfcnjaaGreatDoorKh1
import Derived.Test.YthbpbkbjdfcnjaaGreatDoorKh2
import Derived.Test.YthbpbkbjdfcnjaaGreatDoorKh3
import Derived.Test.YthbpbkbjdfcnjaaGreatDoorKh4
import Derived.Test.YthbpbkbjdfcnjaaGreatDoorKh5
import Derived.Test.YthbpbkbjdfcnjaaGreatDoorKh6
import Derived.Test.YthbpbkbjdfcnjaaGreatDoorKh7
import Derived.Test.YthbpbkbjdfcnjaaGreatDoorKh8
import Derived.Test.YthbpbkbjdfcnjaaGreatDoorKh9
import Derived.Test.YthbpbkbjdfcnjaaGreatDoorKh10
import Derived.Test.YthbpbkbjdfcnjaaGreatDoorKh11
import Derived.Test.YthbpbkbjdfcnjaaGreatDoorKh12
import Derived.Test.YthbpbkbjdfcnjaaGreatDoorKh13
import Derived.Test.YthbpbkbjdfcnjaaGreatDoorKh14
import Derived.Test.YthbpbkbjdfcnjaaGreatDoorKh15
import Derived.Test.YthbpbkbjdfcnjaaGreatDoorKh16
set_option linter.unusedSectionVars false
set_option linter.unusedVariables false
set_option linter.unusedSimpArgs false
section
namespace Go.Proofs.YthbpbkbjdfcnjaaGreatDoor.Pe
open Go Go.RowKit Co Sg Ac It Sl
set_option maxRecDepth 100000
set_option maxHeartbeats 4000000
theorem shp_heads {n us} (h : shp Tryz.prog 140737488351232 (n + 4) 31 us) : ∃ l : List Head, us = [headsV l] ∧ l.length ≤ 140737488351232 := by
 obtain ⟨l, h1, h2, _⟩ := shp_slice headV (fun _ => True) Tryz.underlying31 h (fun x hx => by
  obtain ⟨w, rfl, _⟩ := shp_head hx
  exact ⟨w, by rw [show aggT Tryz.prog 38 = true from by kernel_rfl]; rfl, trivial⟩)
 exact ⟨l, h1, h2⟩
theorem shp_mirror {n us} (h : shp Tryz.prog 140737488351232 (n + 9) 33 us) : ∃ m : Mirror, us = (mirV m).cells ∧ m.entries.length ≤ 140737488351232 ∧ (∀ e ∈ m.entries, InE e) ∧ m.heads.length ≤ 140737488351232 := by
 have h := shp_struct Tryz.underlying33 h
 obtain ⟨a0, b0, rfl, h0, h⟩ := h
 obtain ⟨a1, b1, rfl, h1, h⟩ := h
 obtain ⟨a2, b2, rfl, h2, rfl⟩ := h
 obtain ⟨server, rfl, w0⟩ := shp_i64 Tryz.underlying3 h0
 obtain ⟨l, rfl, w1, w2⟩ := shp_entriesI h1
 obtain ⟨hs, rfl, w3⟩ := shp_heads (n := n + 4) h2
 exact ⟨⟨server, l, hs⟩, rfl, w1, w2, w3⟩
theorem mkEv_root {l : List It.Entry} {now old : Head} : (mkEv l now old).2 = true → (mkEv l now old).1.old.size = 0 → (mkEv l now old).1.root = Mk.root [] := by
 unfold mkEv
 split
 ·intro h; cases h
 split
 ·intro h; cases h
 ·intro _ h0
  have : old.size = 0 := h0
  show rootE (l.take old.size.toNat) = _
  rw [this]
  rfl
theorem ffind17_c (ps : List Int) (l : List It.Entry) (hs : List Head) (h : Head) (hp : InL ps) (hm : EOk l) (hh : hs.length ≤ 1000000) : AC Tryz.prog 43 [intsV ps, entriesV l, headsV hs, headV h] [] (.tup [evV (findE ps l hs h).1, .bo (findE ps l hs h).2]) [] := by
 refine AC.enter2 [93, 94] [] Tryz.func43 rfl (by decide) (by decide) (Nat.le_of_ble_eq_true rfl) (by kernel_rfl) ?_; simp only [eraseC, eraseO, List.map_cons, List.map_nil, List.map_toArray, List.getElem?_toArray, List.getElem?_cons_zero, List.getElem?_cons_succ, Option.bind_some, Option.bind_none, List.append_eq, List.cons_append, List.nil_append]
 have hszh := heads_sz hs
 cases hgl : hs.getLast? with
 | none =>
  have h0 : hs = [] := List.getLast?_eq_none_iff.1 hgl
  have hl0 : hs.length = 0 := by rw [h0]; rfl
  have hv : findE ps l hs h = (evid0, false) := by unfold findE; rw [hgl]
  rw [hv]
  refine runf @hl0 ?_
  exact er0w
 | some x =>
  have hpos : 0 < hs.length := by
   cases hh : hs with
   | nil => rw [hh] at hgl; cases hgl
   | cons a b => simp
  obtain ⟨n, hn⟩ : ∃ n, hs.length = n + 1 := ⟨hs.length - 1, by omega⟩
  have hg : hs[n]? = some x := by rw [List.getLast?_eq_getElem?, hn] at hgl; simpa using hgl
  have hc : (hs.length : Int) - 1 = (n : Int) := by omega
  have hl0 : ((hs.length : Int) == 0) = false := beqF (by omega)
  have k1 := fmake17_c l x h hm
  have hlk : (mkEv l x h).1.link.length ≤ 1000000 := by
   unfold mkEv
   split
   ·exact Nat.zero_le _
   ·split
    ·exact Nat.zero_le _
    ·rename_i c1 c2
     have := hm.len
     have hlen : ((l.take x.size.toNat).map leafE).length ≤ 1000000 := by rw [List.length_map, List.length_take]; omega
     refine Nat.le_trans (linkE_len _ _ ?_) hlen
     rw [List.length_map, List.length_take]
     omega
  have hrt := mkEv_root (l := l) (now := x) (old := h)
  have hv : findE ps l hs h = if (mkEv l x h).2 = true ∧ checkE ps (mkEv l x h).1 = true then ((mkEv l x h).1, true) else (evid0, false) := by unfold findE; rw [hgl]
  generalize mkEv l x h = r at *
  obtain ⟨ev, ok⟩ := r
  simp only at k1 hv hlk hrt
  cases ok with
  | false =>
   rw [if_neg (fun h => by cases h.1)] at hv
   rw [hv]
   refine runf (an @hl0 (an @hc (an @hg @hszh))) ?_
   refine cp k1 ?_
   refine run ?_
   exact er0w
  | true =>
   have k2 := fcheck17_c ps ev hp hlk (hrt rfl)
   cases hck : checkE ps ev with
   | false =>
    rw [hck] at k2
    rw [if_neg (fun h => by rw [hck] at h; cases h.2)] at hv
    rw [hv]
    refine runf (an @hl0 (an @hc (an @hg @hszh))) ?_
    refine cp k1 ?_
    refine run ?_
    refine cp k2 ?_
    refine run ?_
    exact er0w
   | true =>
    rw [hck] at k2
    rw [if_pos ⟨rfl, hck⟩] at hv
    rw [hv]
    refine runf (an @hl0 (an @hc (an @hg @hszh))) ?_
    refine cp k1 ?_
    refine run ?_
    refine cp k2 ?_
    refine run ?_
    exact er0w
theorem findE_ok {ps : List Int} {l : List It.Entry} {hs : List Head} {h : Head} (hf : (findE ps l hs h).2 = true) : checkE ps (findE ps l hs h).1 = true := by
 revert hf
 unfold findE
 split
 ·intro h; cases h
 ·split
  ·rename_i c; intro _; exact c.2
  ·intro h; cases h
theorem findE_len {ps : List Int} {l : List It.Entry} {hs : List Head} {h : Head} (hl : l.length ≤ 1000000) : (findE ps l hs h).1.link.length ≤ 1000000 := by
 unfold findE
 split
 ·exact Nat.zero_le _
 ·rename_i x _
  split
  ·unfold mkEv
   split
   ·exact Nat.zero_le _
   ·split
    ·exact Nat.zero_le _
    ·have hlen : ((l.take x.size.toNat).map leafE).length ≤ 1000000 := by rw [List.length_map, List.length_take]; omega
     refine Nat.le_trans (linkE_len _ _ ?_) hlen
     rw [List.length_map, List.length_take]
     omega
  ·exact Nat.zero_le _
theorem forkFinds_c (ps : List Int) (m : Mirror) (h : Head) (hp : InL ps) (hel : m.entries.length ≤ 140737488351232 ∧ ∀ e ∈ m.entries, InE e) (hhl : m.heads.length ≤ 140737488351232) :
  AC Tryz.prog 9 [intsV ps, mirV m, headV h] [] (.bo true) [] := by
 refine AC.enter2 [26, 32, 42, 43, 31, 36] [] Tryz.func9 rfl (by decide) (by decide) (Nat.le_of_ble_eq_true rfl) (by kernel_rfl) ?_; simp only [eraseC, eraseO, List.map_cons, List.map_nil, List.map_toArray, List.getElem?_toArray, List.getElem?_cons_zero, List.getElem?_cons_succ, Option.bind_some, Option.bind_none, List.append_eq, List.cons_append, List.nil_append]
 have hel1 := hel.1
 have hpl := hp.len
 have kl := light17_c m.entries hel1
 refine run ?_
 refine cp small17_c ?_
 cases hla : light17 m.entries with
 | false =>
  rw [hla] at kl
  refine run ?_
  refine cp kl ?_
  refine run ?_
  exact er0
 | true =>
 rw [hla] at kl
 have la : m.entries.length ≤ 30 := by
  unfold light17 at hla
  simp only [Bool.and_eq_true, decide_eq_true_eq] at hla
  exact hla.1
 refine run ?_
 refine cp kl ?_
 by_cases c1 : m.heads.length ≤ 30
 rotate_left
 ·have c1' : (30 : Int) < (m.heads.length : Int) := by omega
  refine runf @c1' ?_
  exact er0
 have c1' : ¬ (30 : Int) < (m.heads.length : Int) := by omega
 by_cases c2 : ps.length ≤ 100
 rotate_left
 ·have c2' : (100 : Int) < (ps.length : Int) := by omega
  refine runf (an @c1' @c2') ?_
  exact er0
 have c2' : ¬ (100 : Int) < (ps.length : Int) := by omega
 have ha : EOk m.entries := ⟨by omega, fun e he => (hel.2 e he).item.iz⟩
 have k1 := fkfind_c ps m h hp ha (by omega)
 have k2 := ffind17_c ps m.entries m.heads h hp ha (by omega)
 have hln := findE_len (ps := ps) (hs := m.heads) (h := h) ha.len
 have hok := findE_ok (ps := ps) (l := m.entries) (hs := m.heads) (h := h)
 generalize findE ps m.entries m.heads h = r at *
 obtain ⟨ev, ok⟩ := r
 simp only at k1 k2 hln hok
 have ks := fsame17_c ev ev hln hln
 rw [decide_eq_true rfl] at ks
 have kc := fkcheck_c ps ev hp hln
 clear kl hla hel
 refine runf (an @c1' @c2') ?_
 refine cp k1 ?_
 refine run ?_
 refine cp k2 ?_
 cases ok with
 | false =>
  refine run ?_
  refine cp ks ?_
  refine run ?_
  exact er0
 | true =>
  rw [hok rfl] at kc
  refine run ?_
  refine cp ks ?_
  refine run ?_
  refine cp kc ?_
  refine run ?_
  exact er0
end Go.Proofs.YthbpbkbjdfcnjaaGreatDoor.Pe
end
section
namespace Go.Proofs.YthbpbkbjdfcnjaaGreatDoor
open Go Go.RowKit Go.WideShapes Go.ChangeShapes
section
variable {H : Type} {enc : TypeId × Value → H} {P : Program}
theorem post_of_below {f : Func} {s : ChangeSpec} {apart fresh handsOn again : Bool} {W W' : World} {args : Array Value} {v : Value} {ds gs : List (DataW H)} {before pa pv : List MemPlace}
  (hW : DataW.Whole enc P f.params.toList s.vars apart W args.toList ds gs before)
  (hres : ∀ (b : Nat) (sp : Nat → Bool) (hd : Bool), DataW.TrodAll enc P W' b sp hd f.resultTypes.toList (v.resultList f.resultTypes.size) (s.fn H (ds ++ gs)).results [])
  (hargs : ∀ sp : Nat → Bool, (∀ p ∈ before, sp p.block = true) → DataW.TrodAll enc P W' 0 sp true f.params.toList args.toList (s.fn H (ds ++ gs)).args pa)
  (hvars : ∀ sp : Nat → Bool, (∀ p ∈ before, sp p.block = true) → DataW.TrodVars enc P W' sp s.vars (s.fn H (ds ++ gs)).vars pv)
  (hps : before = pa ++ pv) (hb : Below W.heap.size W W')
  (hok : ∀ (j : Nat) (t : TypeId) (r : Value), f.resultTypes[j]? = some t → (v.resultList f.resultTypes.size)[j]? = some r → Value.okWide P W' .any 0 t r) :
  s.post enc P f apart fresh handsOn again W args v W' := by
 have hlt : ∀ p ∈ before, p.block < W.heap.size := fun p hp => hW.lt p hp
 have hold : ∀ p ∈ before, (fun b => decide (b < W.heap.size)) p.block = true := fun p hp => by simpa using hlt p hp
 refine ⟨ds, gs, before, [], pa, pv, hW, hres _ _ _, hargs _ hold, hvars _ hold, World.keptBut_mono (fun p hp => ⟨hp, ?_⟩) (hb.frame (· ∈ before)), fun _ => ?_⟩
 ·rw [hps, List.mem_append] at hp
  exact Or.inr hp
 ·obtain ⟨_, _, _, _, _, hz, hn⟩ := hW
  refine ⟨hok, _, _, ([] ++ pa) ++ pv, ⟨[] ++ pa, pv, trodAll_append (hargs _ (fun _ _ => rfl)) (hres _ _ _), hvars _ (fun _ _ => rfl), rfl, ?_, ?_⟩, ?_⟩
  ·intro b off hp
   have hin : MemPlace.cell b off ∈ before := by rw [hps]; simpa using hp
   rw [hb.frozen (hlt _ hin)]
   exact hz b off hin
  ·intro ha
   have := hn ha
   rw [hps] at this
   simpa using this
  ·intro p hp _
   rw [hps]
   simpa using hp
end
end Go.Proofs.YthbpbkbjdfcnjaaGreatDoor
end
section
namespace Go.Proofs.YthbpbkbjdfcnjaaGreatDoor
open Go Go.RowKit Sm
theorem own : ownKnob Tryz.prog.godebug = none := by kernel_rfl
theorem gK : Tryz.prog.globalNamed "agora/sum.constants" = some 1 := by kernel_rfl
theorem gI : Tryz.prog.globalNamed "agora/sum.initial" = some 0 := by kernel_rfl
theorem gKType : (Tryz.prog.globals[1]?).map (·.type) = some 208 := by kernel_rfl
theorem gIType : (Tryz.prog.globals[0]?).map (·.type) = some 182 := by kernel_rfl
theorem cellsK : Tryz.prog.cellsOf 208 = 64 := by kernel_rfl
theorem cellsI : Tryz.prog.cellsOf 182 = 8 := by kernel_rfl
theorem cellsU : Tryz.prog.cellsOf 162 = 1 := by kernel_rfl
def zsK : List Int := [1116352408, 1899447441, 3049323471, 3921009573, 961987163, 1508970993, 2453635748, 2870763221, 3624381080, 310598401, 607225278, 1426881987, 1925078388, 2162078206, 2614888103, 3248222580, 3835390401, 4022224774, 264347078, 604807628, 770255983, 1249150122, 1555081692, 1996064986, 2554220882, 2821834349, 2952996808, 3210313671, 3336571891, 3584528711, 113926993, 338241895, 666307205, 773529912, 1294757372, 1396182291, 1695183700, 1986661051, 2177026350, 2456956037, 2730485921, 2820302411, 3259730800, 3345764771, 3516065817, 3600352804, 4094571909, 275423344, 430227734, 506948616, 659060556, 883997877, 958139571, 1322822218, 1537002063, 1747873779, 1955562222, 2024104815, 2227730452, 2361852424, 2428436474, 2756734187, 3204031479, 3329325298]
def zsI : List Int := [1779033703, 3144134277, 1013904242, 2773480762, 1359893119, 2600822924, 528734635, 1541459225]
theorem zsK_eq : zsK = tabK.map (fun x => (x.toNat : Int)) := by decide +kernel
theorem zsI_eq : zsI = init8.list.map (fun x => (x.toNat : Int)) := by decide +kernel
theorem word_at (l : List (BitVec 32)) (i : Nat) (hi : i < l.length) : Value.int .u32 ((l.map (fun x => (x.toNat : Int))).getD i 0) = w32 (l.getD i 0) := by
 simp only [List.getD_eq_getElem?_getD, List.getElem?_map, List.getElem?_eq_getElem hi]
 rfl
def laidList : List (String × DataW Unit) := [("agora/sum.constants", Rows.laid_agora_sum_constants), ("agora/sum.initial", Rows.laid_agora_sum_initial)]
theorem tabs_of {W : World} (h : laidMetH Tryz.prog laidList W) : Tabs W := by
 have h1 : laidMet Tryz.prog (("agora/sum.constants", Lib.tabData .u32 zsK) :: [("agora/sum.initial", Lib.tabData .u32 zsI)]) W := h
 have k1 := Lib.tabIs_of_head gK gKType Tryz.underlying208 Tryz.underlying162 cellsU cellsK h1
 have k2 := Lib.tabIs_of_head gI gIType Tryz.underlying182 Tryz.underlying162 cellsU cellsI (laidMet.tail h1)
 refine ⟨fun i hi => ?_, fun i hi => ?_⟩
 ·rw [k1.cell gK i hi, zsK_eq, word_at tabK i hi]
 ·rw [k2.cell gI i hi, zsI_eq, word_at init8.list i hi]
def withCells (cs : Array Value) : Obj → Obj
 | .cells _ t frozen => .cells cs t frozen
 | o => o
noncomputable def laidWorld (os : Os) : World :=
 { World.holding Tryz.prog os ⟨#[], #[], []⟩ with heap := ((World.holding Tryz.prog os ⟨#[], #[], []⟩).heap.modify 1 (withCells (zsK.map (Value.int .u32)).toArray)).modify 0 (withCells (zsI.map (Value.int .u32)).toArray) }
end Go.Proofs.YthbpbkbjdfcnjaaGreatDoor
namespace Go.Proofs.YthbpbkbjdfcnjaaGreatDoor
open Go Go.RowKit Sm
theorem tab_of {W : World} (h : Tabs W) : ∀ b i v, (Pe.tabs).T b i = some v → W.cell? ⟨b, i, none⟩ = some v := by
 intro b i v hv
 have hv' : (if b = 1 ∧ i < 64 then some (w32 (tabK.getD i 0)) else if b = 0 ∧ i < 8 then some (w32 (init8.list.getD i 0)) else none) = some v := hv
 split at hv'
 ·rename_i hc
  obtain ⟨rfl, hi⟩ := hc
  rw [h.1 i hi]; exact hv'
 ·split at hv'
  ·rename_i hc
   obtain ⟨rfl, hi⟩ := hc
   rw [h.2 i hi]; exact hv'
  ·cases hv'
theorem laidOut : laidOutB Tryz.prog = true := by kernel_rfl
end Go.Proofs.YthbpbkbjdfcnjaaGreatDoor
end
section
namespace Go.Proofs.YthbpbkbjdfcnjaaGreatDoor.forkFinds
open Go Go.RowKit Go.ChangeShapes Go.WideShapes Go.ChangeAt
open Go.ChangeMaps (setBlock shut_map_nil open_string shut_string keptBut_setBlock frozen?_setBlock heap_setBlock_same)
set_option maxRecDepth 100000
theorem contract (H : Type) (enc : TypeId × Value → H) (W : World) (base : Nat) (args : Array Value) (ds gs : List (DataW H)) (before : List MemPlace)
  (hval : ∀ (j : Nat) t v, Tryz.f9.params[j]? = some t → args[j]? = some v → Value.okWide Tryz.prog W .any base t v)
  (hW : DataW.Whole enc Tryz.prog Tryz.f9.params.toList Rows.forkFindsSpec.vars false W args.toList ds gs before) (hR : (DataW.weightsEach Tryz.prog (Tryz.f9.params.toList ++ []) (ds ++ gs)).all (· ≤ reachBytes) = true) (hL : laidMetH Tryz.prog Rows.forkFindsRow.laid W) :
  Calls Tryz.prog 9 args W fun e W' => ∃ v, e = .returned v ∧ Rows.forkFindsSpec.post enc Tryz.prog Tryz.f9 false true false false W args v W' := by
 have hW' := hW
 obtain ⟨p, q, hA0, hV, rfl, hfz, hnd⟩ := hW
 have hA : DataW.TrodAll enc Tryz.prog W 0 (fun _ => true) true Tryz.f9.params.toList args.toList ds p := hA0
 rw [Tryz.params9] at hA hval hR
 obtain ⟨v0, vs0, d0, ds0, p0, q0, hargs, rfl, rfl, h0, r0⟩ := trodAll_cons hA
 obtain ⟨v1, vs1, d1, ds1, p1, q1, rfl, rfl, rfl, h1, r1⟩ := trodAll_cons r0
 obtain ⟨v2, vs2, d2, ds2, p2, q2, rfl, rfl, rfl, h2, r2⟩ := trodAll_cons r1
 obtain ⟨rfl, rfl, rfl⟩ := trodAll_nil r2
 obtain rfl : args = #[v0, v1, v2] := by cases args; simp_all
 obtain ⟨rfl, rfl⟩ := trodVars_none hV
 obtain ⟨A0, ln0, cp0, rfl⟩ := okWide_slice Tryz.underlying22 (hval 0 22 v0 rfl rfl)
 obtain ⟨us0, hs0, hr0⟩ := Pe.open_cell (B := 140737488351232) (n := 10) (by kernel_rfl) rfl h0 (Pe.weights_of hR (j := 0) rfl rfl)
 obtain ⟨x0, rfl, hx0⟩ := Pe.shp_intsI hs0
 have hr0 := hr0 _ rfl
 obtain ⟨us1, hs1, hr1⟩ := Pe.open_agg (B := 140737488351232) (n := 10) Tryz.underlying33 (by kernel_rfl) (hval 1 33 v1 rfl rfl) h1 (Pe.weights_of hR (j := 1) rfl rfl)
 obtain ⟨x1, rfl, hx1⟩ := Pe.shp_mirror hs1
 obtain ⟨us2, hs2, hr2⟩ := Pe.open_agg (B := 140737488351232) (n := 10) Tryz.underlying38 (by kernel_rfl) (hval 2 38 v2 rfl rfl) h2 (Pe.weights_of hR (j := 2) rfl rfl)
 obtain ⟨x2, rfl, hx2⟩ := Pe.shp_head hs2
 clear hA0
 have hlt : ∀ x ∈ (p0 ++ (p1 ++ (p2 ++ []))), x.block < W.heap.size := fun x hx => hW'.lt x (by simpa using hx)
 refine (Pe.law_run (Pe.forkFinds_c x0 x1 x2 hx0 ⟨hx1.1, hx1.2.1⟩ hx1.2.2) (tab_of (tabs_of hL)) (Pe.lrelL (hr0) (Pe.lrelL (hr1) (Pe.lrelL (hr2) (Pe.lrel0))))).mono fun e W' ⟨he, hg⟩ => ?_
 subst he
 exact ⟨_, rfl, post_of_below (pa := (p0 ++ (p1 ++ (p2 ++ [])))) (pv := []) hW' (fun _ _ _ => trodAll_cons_mk (shut_bool Tryz.underlying4 _) trodAll_mk0)
  (fun sp hsp => ⟨p0, (p1 ++ (p2 ++ [])), WideElems.Trod_stays (t := 22) laidOut (by kernel_rfl) (by decide +kernel) h0 (fun x hx => hg.same (hlt x (by simp [hx]))) (fun x hx => hsp x (by simp [hx])), ⟨p1, (p2 ++ []), WideElems.Trod_stays (t := 33) laidOut (by kernel_rfl) (by decide +kernel) h1 (fun x hx => hg.same (hlt x (by simp [hx]))) (fun x hx => hsp x (by simp [hx])), ⟨p2, [], WideElems.Trod_stays (t := 38) laidOut (by kernel_rfl) (by decide +kernel) h2 (fun x hx => hg.same (hlt x (by simp [hx]))) (fun x hx => hsp x (by simp [hx])), rfl, rfl⟩, rfl⟩, rfl⟩) (fun _ _ => rfl) (by simp)
  hg (ok_one (by kernel_rfl) rfl (okWide_bool_mk Tryz.underlying4 _))⟩
theorem laid_met (os : Os) : laidMet Tryz.prog Rows.forkFindsRow.laid ((laidWorld os).forCall (fun _ _ => 0) ⟨#[], #[.slice none 0 0, .agg #[.int .i64 0, .slice none 0 0, .slice none 0 0], .agg #[.int .i64 0, .int .i64 0, .string ⟨#[]⟩, .int .i64 0, .int .i64 0, .int .i64 0]], []⟩).memory :=
 laidMet_of_run' 8 (by kernel_rfl) (by kernel_rfl)
theorem reads (os : Os) {H : Type} (enc : TypeId × Value → H) : ∃ places, DataW.whole enc Tryz.prog ((laidWorld os).forCall (fun _ _ => 0) ⟨#[], #[.slice none 0 0, .agg #[.int .i64 0, .slice none 0 0, .slice none 0 0], .agg #[.int .i64 0, .int .i64 0, .string ⟨#[]⟩, .int .i64 0, .int .i64 0, .int .i64 0]], []⟩).memory Tryz.f9.params.toList Rows.forkFindsSpec.vars false #[Value.slice none 0 0, Value.agg #[.int .i64 0, .slice none 0 0, .slice none 0 0], Value.agg #[.int .i64 0, .int .i64 0, .string ⟨#[]⟩, .int .i64 0, .int .i64 0, .int .i64 0]].toList 8 = some ([.nil, .agg [.lit (.int .i64 0), .nil, .nil], .agg [.lit (.int .i64 0), .lit (.int .i64 0), .lit (.string []), .lit (.int .i64 0), .agg [.lit (.int .i64 0), .lit (.int .i64 0)]]], [], places) :=
 ⟨[], by kernel_rfl⟩
theorem lifted (os : Os) (started : os.Started) (H : Type) (enc : TypeId × Value → H) (F : Stop.Interp) :
  ReturnsInHanded {} Tryz.checked os 9 .any ((OpenSpec.ofChange Rows.forkFindsSpec).preRow enc Tryz.prog Tryz.f9 Rows.forkFindsRow.domain false Rows.forkFindsRow.laid) (((OpenSpec.ofChange Rows.forkFindsSpec).at F).post enc Tryz.prog Tryz.f9 false true false false) := by
 obtain ⟨places, hx⟩ := reads os enc
 refine returnsInHanded_of_row (C := Tryz.checked) (s := OpenSpec.ofChange Rows.forkFindsSpec) own started (by kernel_rfl) Tryz.func9
  (witness_row_at (enc := enc) (C := Tryz.checked) false (laidWorld os) #[.slice none 0 0, .agg #[.int .i64 0, .slice none 0 0, .slice none 0 0], .agg #[.int .i64 0, .int .i64 0, .string ⟨#[]⟩, .int .i64 0, .int .i64 0, .int .i64 0]] rfl (by kernel_rfl) (by kernel_rfl) (by kernel_rfl)
   (OpenSpec.preRow_of_cond 8 hx (by kernel_rfl) (fun k hk => by cases hk) (by kernel_rfl) (laid_met os))) ?_
 intro W base args ds gs before hval hW _ _ hR hL _ _
 exact contract H enc W base args ds gs before hval hW hR hL
theorem said : Rows.ForkFindsSaid :=
 OpenClaim.holds_of_cond 9 Tryz.f9 rfl rfl rfl rfl rfl rfl rfl ⟨rfl, rfl, rfl, rfl, rfl⟩ rfl rfl rfl rfl rfl (by kernel_rfl) Tryz.func9 (by kernel_rfl)
  (of_decide_eq_true (by kernel_rfl)) (by unfold Func.isWrapper; first | (rw [if_pos (by decide +kernel)]; kernel_rfl) | (rw [if_neg (by decide +kernel)]; exact ⟨rfl, rfl⟩))
  (fun os started H enc _ F => by rw [OpenClaim.pre_eq_preRow]; exact lifted os started H enc F)
theorem plain (f : FuncId) (fn : Func) (hf : Tryz.pinned.checked.prog.funcNamed "agora/agoralaw17.ForkFinds" = some f) (hfn : Tryz.pinned.checked.prog.funcs[f]? = some fn) :
  false = Tryz.pinned.checked.prog.looks [] ∧ ∀ (j : Nat) t, fn.params[j]? = some t → Tryz.pinned.checked.prog.wantsStandIn t = false := by
 obtain rfl : f = 9 := Option.some.inj ((show Tryz.prog.funcNamed "agora/agoralaw17.ForkFinds" = some 9 by kernel_rfl).symm.trans hf) |>.symm
 obtain rfl : fn = Tryz.f9 := (Option.some.inj (Tryz.func9.symm.trans hfn)).symm
 refine ⟨by kernel_rfl, fun j t ht => ?_⟩
 rw [Tryz.params9] at ht
 have hm : t ∈ [22, 33, 38] := by simpa using Array.mem_of_getElem? ht
 rcases List.mem_cons.1 hm with rfl | hm
 ·exact (show Tryz.prog.wantsStandIn 22 = false by kernel_rfl)
 rcases List.mem_cons.1 hm with rfl | hm
 ·exact (show Tryz.prog.wantsStandIn 33 = false by kernel_rfl)
 rcases List.mem_cons.1 hm with rfl | hm
 ·exact (show Tryz.prog.wantsStandIn 38 = false by kernel_rfl)
 cases hm
theorem card : Rows.ForkFindsCardSaid :=
 Claim7.holds_tied_plain_at .later [] _ _ _ _ said (fun _ h => by cases h) (by kernel_rfl) (fun _ h => by cases h) forkFinds_row_tie rfl ⟨rfl, rfl⟩ (by kernel_rfl) rfl plain (by kernel_rfl)
end Go.Proofs.YthbpbkbjdfcnjaaGreatDoor.forkFinds
end
