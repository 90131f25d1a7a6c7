/- The small examples and the bounds of the laws of layer 12; the arguments as plain values. -/
import Derived.Test.YtaphpbiaoofmkaaGreatDoorAcW
import Derived.Test.YtaphpbiaoofmkaaGreatDoorPeW5
set_option linter.unusedSectionVars false
set_option linter.unusedVariables false
set_option linter.unusedSimpArgs false
namespace Go.Proofs.YtaphpbiaoofmkaaGreatDoor.Pe
open Go Go.RowKit Co Sg Ac
set_option maxRecDepth 100000
set_option maxHeartbeats 4000000
def sId : By := [48, 49, 50, 51, 52, 53, 54, 55, 56, 57, 97, 98, 99, 100, 101, 102]
def sDig : By := sId ++ sId
def sA : Ac.Act := { act0 with author := sId, text := [97, 108, 105, 99, 101], n := 37 }
def sB : Ac.Act := { sA with m := 20 }
def sC : Ac.Act := { sA with object := sDig }
def sD : Ac.Act := { act0 with author := sId, seq := 1, prev := sDig, kind := 1, text := [104, 101, 108, 108, 111] }
def sE : Ac.Act := { sD with scope := 2 }
def sK : Key := ⟨1, 37⟩
theorem sA_right : right sA = true := by decide +kernel
theorem sB_right : right sB = false := by decide +kernel
theorem sC_right : right sC = false := by decide +kernel
theorem sD_right : right sD = true := by decide +kernel
theorem sE_right : right sE = false := by decide +kernel
theorem sK_right : sK.right = true := by decide +kernel
theorem sz_of {a : Ac.Act} (h : Sm a) : Sz a := ⟨by have := h.author; omega, by have := h.target; omega, by have := h.group; omega, by have := h.text; omega, fun s hs => by have := h.to.2 s hs; omega, by have := h.to.1; omega, by have := h.wraps.1; omega⟩
theorem sz_right {a : Ac.Act} (h : right a = true) : Sz a := sz_of (right_sm h)
theorem sz0 : Sz act0 := ⟨by decide, by decide, by decide, by decide, by decide, by decide, by decide⟩
def sS : Ac.Act := signA sK sA
theorem sS_facts : right sS = true ∧ core sS = core sA ∧ verifyA 37 sS = true ∧ Ac.read (Ac.bytes sS) = (sS, true) := by
 have e : ({ sA with sig := sig0 } : Ac.Act) = sA := rfl
 obtain ⟨h1, h2, h3⟩ := sign_right (a := sA) (k := sK) (by rw [e]; exact sA_right) sK_right
 have h4 := sign_verify (a := sA) (k := sK) (by rw [e]; exact sA_right) sK_right
 exact ⟨h2, h3, h4, read_bytes h2⟩
theorem small_c : AC Tryz.prog 10 [] [] (.bo true) [] := by
 refine AC.enter [14, 25, 12, 19, 21, 17, 27, 23] [] Tryz.func10 rfl (by decide) (by decide) (Nat.le_of_ble_eq_true rfl) (by kernel_rfl) ?_; simp only [eraseC, eraseO, List.map_cons, List.map_nil, List.map_toArray, List.getElem?_toArray, List.getElem?_cons_zero, List.getElem?_cons_succ, Option.bind_some, Option.bind_none, List.append_eq, List.cons_append, List.nil_append]
 obtain ⟨f1, f2, f3, f4⟩ := sS_facts
 have zA := sz_right sA_right
 have zS := sz_right f1
 have zD := sz_right sD_right
 have zB : Sz sB := ⟨by decide, by decide, by decide, by decide, by decide, by decide, by decide⟩
 have zC : Sz sC := ⟨by decide, by decide, by decide, by decide, by decide, by decide, by decide⟩
 have zE : Sz sE := ⟨by decide, by decide, by decide, by decide, by decide, by decide, by decide⟩
 have kS : AC _ _ _ [] (actV sS) [] := signA_c sK sA zA (by decide)
 have kBy := bytes_c sS zS
 have kRd := read_c (Ac.bytes sS) (Nat.le_trans bytes_len (by omega))
 rw [f4] at kRd
 have kA := right_c sA zA
 rw [sA_right] at kA
 have kB := right_c sB zB
 rw [sB_right] at kB
 have kC := right_c sC zC
 rw [sC_right] at kC
 have kD := right_c sD zD
 rw [sD_right] at kD
 have kE := right_c sE zE
 rw [sE_right] at kE
 have kV := verifyA_c 37 sS zS (by omega)
 rw [f3] at kV
 have kSm := same_c sS sS ⟨zS.to, zS.wraps⟩ ⟨zS.to, zS.wraps⟩
 rw [decide_eq_true rfl] at kSm
 have kCo := core_c sS zS
 rw [f2] at kCo
 have kCA := core_c sA zA
 have kCB := core_c sB zB
 rw [(bytes_wrong sB_right).2] at kCB
 have kP1 := posting_c 1
 rw [show posting 1 = true from rfl] at kP1
 have kP0 := posting_c 0
 rw [show posting 0 = false from rfl] at kP0
 generalize sS = S at *
 generalize Ac.bytes S = bs at *
 generalize core sA = ca at *
 clear f1 f2 f3 f4 zA zS zD zB zC zE
 refine run ?_
 refine cp kS ?_
 refine run ?_
 refine cp kBy ?_
 refine run ?_
 refine cp kRd ?_
 refine run ?_
 refine cp kA ?_
 refine run ?_
 refine cp kB ?_
 refine run ?_
 refine cp kC ?_
 refine run ?_
 refine cp kD ?_
 refine run ?_
 refine cp kE ?_
 refine run ?_
 refine cp kP1 ?_
 refine run ?_
 refine cp kP0 ?_
 refine run ?_
 refine cp kV ?_
 refine run ?_
 refine cp kSm ?_
 refine run ?_
 refine cp kCo ?_
 refine run ?_
 refine cp kCA ?_
 refine run ?_
 refine cp kCB ?_
 refine run ?_
 exact er0
def len3 (b : Box) : Nat := b.nonce.length + b.data.length + b.tag.length
def tot (a : Ac.Act) : Nat := a.author.length + a.prev.length + a.object.length + a.target.length + a.group.length + a.text.length + a.body.nonce.length + a.body.data.length + a.body.tag.length + (a.to.map List.length).sum + (a.wraps.map fun w => len3 w.box).sum
def few (a : Ac.Act) : Bool := decide (a.to.length ≤ 70) && decide (a.wraps.length ≤ 70) && decide (tot a ≤ 10000)
structure In (a : Ac.Act) : Prop where
 sz : Sz a
 prev : a.prev.length ≤ 140737488355328
 object : a.object.length ≤ 140737488355328
 body : a.body.nonce.length ≤ 140737488355328 ∧ a.body.data.length ≤ 140737488355328 ∧ a.body.tag.length ≤ 140737488355328
 ws : ∀ w ∈ a.wraps, w.box.nonce.length ≤ 140737488355328 ∧ w.box.data.length ≤ 140737488355328 ∧ w.box.tag.length ≤ 140737488355328
 ints : (-9223372036854775808 ≤ a.epoch ∧ a.epoch ≤ 9223372036854775807) ∧ (-9223372036854775808 ≤ a.m ∧ a.m ≤ 9223372036854775807)
theorem sum_take {α : Type} (f : α → Nat) (l : List α) {k : Nat} (h : k < l.length) : ((l.take (k + 1)).map f).sum = ((l.take k).map f).sum + f l[k] := by
 rw [List.take_succ_eq_append_getElem h, List.map_append, List.sum_append]
 simp
theorem sum_le {α : Type} (f : α → Nat) (l : List α) (B k : Nat) (h : ∀ x ∈ l, f x ≤ B) : ((l.take k).map f).sum ≤ k * B := by
 induction l generalizing k with
 | nil => simp
 | cons a l ih =>
  cases k with
  | zero => simp
  | succ k =>
   have h1 := h a (by simp)
   have h2 := ih k fun x hx => h x (by simp [hx])
   simp only [List.take_succ_cons, List.map_cons, List.sum_cons, Nat.succ_mul]
   omega
theorem few_c (a : Ac.Act) (h : In a) : AC Tryz.prog 11 [actV a] [] (.bo (few a)) [] := by
 refine AC.enter [] [] Tryz.func11 rfl (by decide) (by decide) (Nat.le_of_ble_eq_true rfl) (by kernel_rfl) ?_; simp only [eraseC, eraseO, List.map_cons, List.map_nil, List.map_toArray, List.getElem?_toArray, List.getElem?_cons_zero, List.getElem?_cons_succ, Option.bind_some, Option.bind_none, List.append_eq, List.cons_append, List.nil_append]
 have z := h.sz
 have hp := h.prev
 have ho := h.object
 have hb := h.body
 have z1 := z.author
 have z2 := z.target
 have z3 := z.group
 have z4 := z.text
 unfold few
 by_cases t1 : a.to.length ≤ 70
 rotate_left
 ·rw [decide_eq_false t1]
  refine run ?_
  exact er0
 by_cases t2 : a.wraps.length ≤ 70
 rotate_left
 ·rw [decide_eq_true t1, decide_eq_false t2]
  refine run ?_
  exact er0
 rw [decide_eq_true t1, decide_eq_true t2]
 obtain ⟨base, hbase⟩ : ∃ base : Nat, base = a.author.length + a.prev.length + a.object.length + a.target.length + a.group.length + a.text.length + a.body.nonce.length + a.body.data.length + a.body.tag.length := ⟨_, rfl⟩
 have hbl : base ≤ 1407374883553280 := by omega
 have htot : tot a = base + (a.to.map List.length).sum + (a.wraps.map fun w => len3 w.box).sum := by unfold tot; rw [hbase]
 have hws := fun w hw => h.ws w hw
 have htos := z.tos
 rw [htot]
 have hsz : allSz 5 (a.wraps.map wrapV) = true := allSz_map 5 wrapV (fun _ => rfl) _
 refine run ?_
 refine loop_mk (fun m e S => e 1 = .ptr 0 0 ∧ S = [.cells (actL a)] ∧ ∃ (k s : Nat), e 4 = .it .i64 (k : Int) ∧ e 3 = .it .i64 (s : Int) ∧ k ≤ a.to.length ∧ s = base + ((a.to.take k).map List.length).sum ∧ m = a.to.length - k) a.to.length ⟨(by first | rfl | (simp only [↓upd_apply, ↓put_some, ↓reduceIte, Nat.reduceEqDiff, ↓argEnv_zero, ↓argEnv_succ, *]; done)), rfl, 0, base, (by first | rfl | (simp only [↓upd_apply, ↓put_some, ↓reduceIte, Nat.reduceEqDiff, ↓argEnv_zero, ↓argEnv_succ, *]; done)), by rw [hbase]; exact (by first | rfl | (simp only [↓upd_apply, ↓put_some, ↓reduceIte, Nat.reduceEqDiff, ↓argEnv_zero, ↓argEnv_succ, *]; done)), by omega, by simp, rfl⟩ ?_
 rintro m e S ⟨s1, rfl, k, s, s4, s3, hk, hs, rfl⟩
 have hsl := sum_le List.length a.to 140737488355328 k htos
 have hk70 : k * 140737488355328 ≤ 70 * 140737488355328 := Nat.mul_le_mul_right _ (by omega)
 by_cases hlt : k < a.to.length
 focus
  have hg : a.to[k]? = some a.to[k] := List.getElem?_eq_getElem hlt
  have hx := htos a.to[k] (List.getElem_mem hlt)
  have hst := sum_take List.length a.to hlt
  generalize a.to[k] = x at *
  clear hbase htot hws htos hsz hb
  refine runf (an @s1 (an @s4 (an @s3 @hg))) ?_
  exact round_mk (a.to.length - (k + 1)) (by omega) ⟨(by first | rfl | (simp only [↓upd_apply, ↓put_some, ↓reduceIte, Nat.reduceEqDiff, ↓argEnv_zero, ↓argEnv_succ, *]; done)), rfl, k + 1, s + x.length, (by first | rfl | (simp only [↓upd_apply, ↓put_some, ↓reduceIte, Nat.reduceEqDiff, ↓argEnv_zero, ↓argEnv_succ, *]; done)), (by first | rfl | (simp only [↓upd_apply, ↓put_some, ↓reduceIte, Nat.reduceEqDiff, ↓argEnv_zero, ↓argEnv_succ, *]; done)), by omega, by rw [hst]; omega, rfl⟩
 obtain rfl : k = a.to.length := by omega
 rw [List.take_length] at hs hsl
 have hsb : s ≤ 11258999068426240 := by omega
 rw [← hs]
 clear hs hsl hbase htot htos hb
 refine runf (an @s1 (an @s4 @s3)) ?_
 refine loop_mk (fun m e S => e 1 = .ptr 0 0 ∧ ∃ (k r : Nat) (T : Store), e 5 = .it .i64 (k : Int) ∧ e 3 = .it .i64 (r : Int) ∧ S = .cells (actL a) :: T ∧ k ≤ a.wraps.length ∧ r = s + ((a.wraps.take k).map fun w => len3 w.box).sum ∧ m = a.wraps.length - k) a.wraps.length ⟨(by first | rfl | (simp only [↓upd_apply, ↓put_some, ↓reduceIte, Nat.reduceEqDiff, ↓argEnv_zero, ↓argEnv_succ, *]; done)), 0, s, [], (by first | rfl | (simp only [↓upd_apply, ↓put_some, ↓reduceIte, Nat.reduceEqDiff, ↓argEnv_zero, ↓argEnv_succ, *]; done)), (by first | rfl | (simp only [↓upd_apply, ↓put_some, ↓reduceIte, Nat.reduceEqDiff, ↓argEnv_zero, ↓argEnv_succ, *]; done)), rfl, by omega, by simp, rfl⟩ ?_
 clear s1 s4 s3
 rintro m e S ⟨s1, k, r, T, s5, s3, rfl, hk, hr, rfl⟩
 have hsl := sum_le (fun w : Wrap => len3 w.box) a.wraps 422212465065984 k (fun w hw => by have := hws w hw; unfold len3; omega)
 have hk70 : k * 422212465065984 ≤ 70 * 422212465065984 := Nat.mul_le_mul_right _ (by omega)
 by_cases hlt : k < a.wraps.length
 ·have hg : a.wraps[k]? = some a.wraps[k] := List.getElem?_eq_getElem hlt
  have hx := hws a.wraps[k] (List.getElem_mem hlt)
  have hst := sum_take (fun w : Wrap => len3 w.box) a.wraps hlt
  have hT1 : ∀ y : SObj, (T ++ [y])[T.length]? = some y := fun y => by simp
  have hT2 : ∀ y z : SObj, (T ++ [y]).set T.length z = T ++ [z] := fun y z => by simp
  generalize a.wraps[k] = x at *
  clear hws
  refine runf (an @s1 (an @s5 (an @s3 (an @hg (an @hsz (an @hT1 @hT2)))))) ?_
  exact round_mk (a.wraps.length - (k + 1)) (by omega) ⟨(by first | rfl | (simp only [↓upd_apply, ↓put_some, ↓reduceIte, Nat.reduceEqDiff, ↓argEnv_zero, ↓argEnv_succ, *]; done)), k + 1, r + len3 x.box, _, (by first | rfl | (simp only [↓upd_apply, ↓put_some, ↓reduceIte, Nat.reduceEqDiff, ↓argEnv_zero, ↓argEnv_succ, *]; done)), by unfold len3; rw [show ((r + (x.box.nonce.length + x.box.data.length + x.box.tag.length) : Nat) : Int) = (r : Int) + (x.box.nonce.length : Int) + (x.box.data.length : Int) + (x.box.tag.length : Int) from by omega]; exact (by first | rfl | (simp only [↓upd_apply, ↓put_some, ↓reduceIte, Nat.reduceEqDiff, ↓argEnv_zero, ↓argEnv_succ, *]; done)), rfl, by omega, by rw [hst]; omega, rfl⟩
 ·obtain rfl : k = a.wraps.length := by omega
  rw [List.take_length] at hr
  rw [← hr]
  have hd : decide (r ≤ 10000) = decide ((r : Int) ≤ 10000) := by rw [Bool.eq_iff_iff]; simp only [decide_eq_true_eq]; omega
  rw [hd]
  refine runf (an @s1 (an @s5 @s3)) ?_
  exact er0
theorem shp_strs {n us} (h : shp Tryz.prog 140737488351232 (n + 2) 22 us) : ∃ l : List By, us = [sls l] ∧ l.length ≤ 140737488351232 ∧ ∀ s ∈ l, s.length ≤ 140737488351232 := by
 obtain ⟨l, h1, h2, h3⟩ := shp_slice AV.st (fun s : By => s.length ≤ 140737488351232) Tryz.underlying22 h (fun x hx => by
  obtain ⟨s, rfl, hs⟩ := shp_str Tryz.underlying9 hx
  exact ⟨s, by rw [show aggT Tryz.prog 9 = false from by kernel_rfl]; rfl, hs⟩)
 exact ⟨l, h1, h2, h3⟩
theorem shp_box {n us} (h : shp Tryz.prog 140737488351232 (n + 2) 24 us) : ∃ b : Box, us = [.st b.nonce, .st b.data, .st b.tag] ∧ b.nonce.length ≤ 140737488351232 ∧ b.data.length ≤ 140737488351232 ∧ b.tag.length ≤ 140737488351232 := by
 have h := shp_struct Tryz.underlying24 h
 obtain ⟨a0, b0, rfl, h0, h⟩ := h
 obtain ⟨a1, b1, rfl, h1, h⟩ := h
 obtain ⟨a2, b2, rfl, h2, rfl⟩ := h
 obtain ⟨s0, rfl, w0⟩ := shp_str Tryz.underlying9 h0
 obtain ⟨s1, rfl, w1⟩ := shp_str Tryz.underlying9 h1
 obtain ⟨s2, rfl, w2⟩ := shp_str Tryz.underlying9 h2
 exact ⟨⟨s0, s1, s2⟩, rfl, w0, w1, w2⟩
theorem shp_sig {n us} (h : shp Tryz.prog 140737488351232 (n + 2) 27 us) : ∃ s : Sig, us = [.it .i64 s.e, .it .i64 s.s] := by
 have h := shp_struct Tryz.underlying27 h
 obtain ⟨a0, b0, rfl, h0, h⟩ := h
 obtain ⟨a1, b1, rfl, h1, rfl⟩ := h
 obtain ⟨i0, rfl, w0⟩ := shp_i64 Tryz.underlying3 h0
 obtain ⟨i1, rfl, w1⟩ := shp_i64 Tryz.underlying3 h1
 exact ⟨⟨i0, i1⟩, rfl⟩
theorem shp_key {n us} (h : shp Tryz.prog 140737488351232 (n + 2) 31 us) : ∃ k : Key, us = (keyV k).cells ∧ (-9223372036854775808 ≤ k.secret ∧ k.secret ≤ 9223372036854775807) ∧ (-9223372036854775808 ≤ k.pub ∧ k.pub ≤ 9223372036854775807) := by
 have h := shp_struct Tryz.underlying31 h
 obtain ⟨a0, b0, rfl, h0, h⟩ := h
 obtain ⟨a1, b1, rfl, h1, rfl⟩ := h
 obtain ⟨i0, rfl, w0⟩ := shp_i64 Tryz.underlying3 h0
 obtain ⟨i1, rfl, w1⟩ := shp_i64 Tryz.underlying3 h1
 exact ⟨⟨i0, i1⟩, rfl, w0, w1⟩
theorem shp_wrap {n us} (h : shp Tryz.prog 140737488351232 (n + 3) 105 us) : ∃ w : Wrap, us = (wrapV w).cells ∧ w.box.nonce.length ≤ 140737488351232 ∧ w.box.data.length ≤ 140737488351232 ∧ w.box.tag.length ≤ 140737488351232 := by
 have h := shp_struct Tryz.underlying105 h
 obtain ⟨a0, b0, rfl, h0, h⟩ := h
 obtain ⟨a1, b1, rfl, h1, h⟩ := h
 obtain ⟨a2, b2, rfl, h2, rfl⟩ := h
 obtain ⟨i0, rfl, w0⟩ := shp_i64 Tryz.underlying3 h0
 obtain ⟨i1, rfl, w1⟩ := shp_i64 Tryz.underlying3 h1
 obtain ⟨b, rfl, w2⟩ := shp_box h2
 exact ⟨⟨i0, i1, b⟩, rfl, w2⟩
theorem shp_wraps {n us} (h : shp Tryz.prog 140737488351232 (n + 4) 25 us) : ∃ l : List Wrap, us = [.sl .ro (l.map wrapV)] ∧ l.length ≤ 140737488351232 ∧ ∀ w ∈ l, w.box.nonce.length ≤ 140737488351232 ∧ w.box.data.length ≤ 140737488351232 ∧ w.box.tag.length ≤ 140737488351232 :=
 shp_slice wrapV (fun w : Wrap => w.box.nonce.length ≤ 140737488351232 ∧ w.box.data.length ≤ 140737488351232 ∧ w.box.tag.length ≤ 140737488351232) Tryz.underlying25 h fun x hx => by
  obtain ⟨w, rfl, hw⟩ := shp_wrap hx
  exact ⟨w, by rw [show aggT Tryz.prog 105 = true from by kernel_rfl]; rfl, hw⟩
theorem shp_actA {n us} (h : shp Tryz.prog 140737488351232 (n + 5) 29 us) : ∃ a : Ac.Act, us = (actV a).cells ∧ In a := by
 have h := shp_struct Tryz.underlying29 h
 obtain ⟨a0, b0, rfl, h0, h⟩ := h
 obtain ⟨a1, b1, rfl, h1, h⟩ := h
 obtain ⟨a2, b2, rfl, h2, h⟩ := h
 obtain ⟨a3, b3, rfl, h3, h⟩ := h
 obtain ⟨a4, b4, rfl, h4, h⟩ := h
 obtain ⟨a5, b5, rfl, h5, h⟩ := h
 obtain ⟨a6, b6, rfl, h6, h⟩ := h
 obtain ⟨a7, b7, rfl, h7, h⟩ := h
 obtain ⟨a8, b8, rfl, h8, h⟩ := h
 obtain ⟨a9, b9, rfl, h9, h⟩ := h
 obtain ⟨a10, b10, rfl, h10, h⟩ := h
 obtain ⟨a11, b11, rfl, h11, h⟩ := h
 obtain ⟨a12, b12, rfl, h12, h⟩ := h
 obtain ⟨a13, b13, rfl, h13, h⟩ := h
 obtain ⟨a14, b14, rfl, h14, h⟩ := h
 obtain ⟨a15, b15, rfl, h15, h⟩ := h
 obtain ⟨a16, b16, rfl, h16, rfl⟩ := h
 obtain ⟨author, rfl, w0⟩ := shp_str Tryz.underlying9 h0
 obtain ⟨seq, rfl, w1⟩ := shp_i64 Tryz.underlying3 h1
 obtain ⟨prev, rfl, w2⟩ := shp_str Tryz.underlying9 h2
 obtain ⟨kind, rfl, w3⟩ := shp_i64 Tryz.underlying3 h3
 obtain ⟨time, rfl, w4⟩ := shp_i64 Tryz.underlying3 h4
 obtain ⟨object, rfl, w5⟩ := shp_str Tryz.underlying9 h5
 obtain ⟨target, rfl, w6⟩ := shp_str Tryz.underlying9 h6
 obtain ⟨scope, rfl, w7⟩ := shp_i64 Tryz.underlying3 h7
 obtain ⟨group, rfl, w8⟩ := shp_str Tryz.underlying9 h8
 obtain ⟨to, rfl, w9, w9'⟩ := shp_strs h9
 obtain ⟨text, rfl, w10⟩ := shp_str Tryz.underlying9 h10
 obtain ⟨body, rfl, w11⟩ := shp_box h11
 obtain ⟨epoch, rfl, w12⟩ := shp_i64 Tryz.underlying3 h12
 obtain ⟨wr, rfl, w13, w13'⟩ := shp_wraps h13
 obtain ⟨n, rfl, w14⟩ := shp_i64 Tryz.underlying3 h14
 obtain ⟨m, rfl, w15⟩ := shp_i64 Tryz.underlying3 h15
 obtain ⟨sig, rfl⟩ := shp_sig h16
 refine ⟨⟨author, seq, prev, kind, time, object, target, scope, group, to, text, body, epoch, wr, n, m, sig⟩, rfl, ⟨?_, ?_, ?_, ?_, fun s hs => ?_, ?_, ?_⟩, ?_, ?_, ?_, fun w hw => ?_, w12, w15⟩
 ·show author.length ≤ _; omega
 ·show target.length ≤ _; omega
 ·show group.length ≤ _; omega
 ·show text.length ≤ _; omega
 ·have := w9' s hs; omega
 ·show to.length ≤ _; omega
 ·show wr.length ≤ _; omega
 ·show prev.length ≤ _; omega
 ·show object.length ≤ _; omega
 ·show body.nonce.length ≤ _ ∧ body.data.length ≤ _ ∧ body.tag.length ≤ _; omega
 ·have := w13' w hw; omega
end Go.Proofs.YtaphpbiaoofmkaaGreatDoor.Pe
