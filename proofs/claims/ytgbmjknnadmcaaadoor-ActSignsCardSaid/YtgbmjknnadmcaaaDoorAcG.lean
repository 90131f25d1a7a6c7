/- The walks of ActReads, ActBinds, ActSigns on plain values. -/
import Derived.Test.YtgbmjknnadmcaaaDoorAcF
namespace Go.Proofs.YtgbmjknnadmcaaaDoor.Pe
set_option linter.unusedSectionVars false
set_option linter.unusedVariables false
set_option linter.unusedSimpArgs false
open Go Go.RowKit Co Sg Ac
set_option maxRecDepth 100000
set_option maxHeartbeats 4000000
theorem actReads_c (a : Ac.Act) (s : By) (ha : In a) (hs : s.length ≤ 140737488351232) : AC Tryd.prog 3 [actV a, .st s] [] (.bo true) [] := by
  refine AC.enter [8, 9, 10, 11, 12, 13, 14] [] Tryd.func3 rfl (by decide) (by decide) (Nat.le_of_ble_eq_true rfl) (by kernel_rfl) ?_; simp only [eraseC, eraseO, List.map_cons, List.map_nil, List.map_toArray, List.getElem?_toArray, List.getElem?_cons_zero, List.getElem?_cons_succ, Option.bind_some, Option.bind_none, List.append_eq, List.cons_append, List.nil_append]
  refine run ?_
  refine cp small_c ?_
  refine run ?_
  refine cp (few_c a ha) ?_
  by_cases hf : few a = true
  rotate_left
  · have hf : few a = false := by simpa using hf
    rw [hf]
    refine run ?_
    exact er0
  rw [hf]
  by_cases hl : s.length ≤ 10000
  rotate_left
  · refine run ?_
    exact er0
  have kr := read_c s (by omega)
  have hz := ha.sz
  refine run ?_
  refine cp kr ?_
  by_cases hok : (Ac.read s).2 = true
  focus
    obtain ⟨r1, r2⟩ := read_right hok
    have k1 := right_c (Ac.read s).1 (sz_right r1)
    rw [r1] at k1
    have k2 := bytes_c (Ac.read s).1 (sz_right r1)
    rw [r2] at k2
    rw [hok]
    generalize (Ac.read s).1 = x at *
    refine run ?_
    refine cp k1 ?_
    refine run ?_
    refine cp k2 ?_
    refine run ?_
    clear k1 k2 r1 r2
  rotate_left
  focus
    have hok : (Ac.read s).2 = false := by simpa using hok
    have k1 := same_c act0 act0 ⟨sz0.to, sz0.wraps⟩ ⟨sz0.to, sz0.wraps⟩
    rw [decide_eq_true rfl] at k1
    rw [hok, read_wrong hok]
    refine run ?_
    refine cp k1 ?_
    refine run ?_
    clear k1
  all_goals
    refine cp (bytes_c a hz) ?_
    refine run ?_
    refine cp (right_c a hz) ?_
    by_cases hra : right a = true
    rotate_left
    focus
      have hra : right a = false := by simpa using hra
      have hbw := bytes_wrong hra
      have kc := core_c a hz
      rw [hbw.2] at kc
      rw [hbw.1, hra]
      refine run ?_
      refine cp kc ?_
      refine run ?_
      exact er0
    have hne := bytes_ne hra
    have hlen := bytes_len (a := a)
    have hpos : 0 < (Ac.bytes a).length := List.length_pos_iff.2 hne
    have q1 := read_c (Ac.bytes a) (by omega)
    rw [read_bytes hra] at q1
    have q2 := same_c a a ⟨hz.to, hz.wraps⟩ ⟨hz.to, hz.wraps⟩
    rw [decide_eq_true rfl] at q2
    have q3 := read_c (Ac.bytes a ++ [120]) (by simp only [List.length_append, List.length_singleton]; omega)
    rw [read_more hra (by simp)] at q3
    have q4 := read_c ((Ac.bytes a).take ((Ac.bytes a).length - 1)) (by rw [List.length_take]; omega)
    rw [read_less (s := (Ac.bytes a).take ((Ac.bytes a).length - 1)) (r := (Ac.bytes a).drop ((Ac.bytes a).length - 1)) hra (by
      intro e
      have := congrArg List.length e
      rw [List.length_drop] at this
      simp at this
      omega) (List.take_append_drop _ _).symm] at q4
    rw [hra]
    have hsub : (((Ac.bytes a).length : Int) - 1).toNat = (Ac.bytes a).length - 1 := by omega
    generalize (Ac.read (Ac.bytes a ++ [120])).1 = y1 at *
    generalize (Ac.read ((Ac.bytes a).take ((Ac.bytes a).length - 1))).1 = y2 at *
    generalize Ac.bytes a = bs at *
    refine run ?_
    refine cp q1 ?_
    refine run ?_
    refine cp q2 ?_
    refine run ?_
    refine cp q3 ?_
    refine runf @hsub ?_
    refine cp q4 ?_
    refine run ?_
    exact er0
theorem beqDec {α : Type} [BEq α] [LawfulBEq α] (x y : α) (p : Prop) [Decidable p] (h : x = y ↔ p) : (x == y) = decide p := by
  rw [Bool.eq_iff_iff]
  simp [h]
theorem actBinds_c (a b : Ac.Act) (p : Int) (ha : In a) (hb : In b) (hp : -9223372036854775808 ≤ p ∧ p ≤ 9223372036854775807) : AC Tryd.prog 4 [actV a, actV b, .it .i64 p] [] (.bo true) [] := by
  refine AC.enter [8, 9, 11, 12, 13, 14, 15, 16] [] Tryd.func4 rfl (by decide) (by decide) (Nat.le_of_ble_eq_true rfl) (by kernel_rfl) ?_; simp only [eraseC, eraseO, List.map_cons, List.map_nil, List.map_toArray, List.getElem?_toArray, List.getElem?_cons_zero, List.getElem?_cons_succ, Option.bind_some, Option.bind_none, List.append_eq, List.cons_append, List.nil_append]
  have za := ha.sz
  have zb := hb.sz
  refine run ?_
  refine cp small_c ?_
  refine run ?_
  refine cp (few_c a ha) ?_
  by_cases hf : few a = true
  rotate_left
  · rw [show few a = false by simpa using hf]
    refine run ?_
    exact er0
  rw [hf]
  refine run ?_
  refine cp (few_c b hb) ?_
  by_cases hg : few b = true
  rotate_left
  · rw [show few b = false by simpa using hg]
    refine run ?_
    exact er0
  rw [hg]
  refine run ?_
  refine cp (right_c a za) ?_
  by_cases ra : right a = true
  rotate_left
  · rw [show right a = false by simpa using ra]
    refine run ?_
    exact er0
  rw [ra]
  refine run ?_
  refine cp (right_c b zb) ?_
  by_cases rb : right b = true
  rotate_left
  · rw [show right b = false by simpa using rb]
    refine run ?_
    exact er0
  rw [rb]
  have e1 : (Ac.bytes a == Ac.bytes b) = decide (a = b) := beqDec _ _ _ ⟨fun e => bytes_inj ra rb e, fun e => by rw [e]⟩
  have sa := (right_sm ra).sig
  have rc : right { b with sig := a.sig } = true := right_sig b a.sig sa rb
  have zc := sz_right rc
  have e2 : (core a == core b) = decide (a = { b with sig := a.sig }) := beqDec _ _ _ ⟨fun e => core_inj ra rb e, fun e => by
    unfold core
    rw [if_pos ra, if_pos rb, e]
    rfl⟩
  have va := verifyA_c p a za hp
  have vb := verifyA_c p b zb hp
  have vc : AC _ _ [.it .i64 p, actV { b with sig := a.sig }] [] (.bo (verifyA p { b with sig := a.sig })) [] := verifyA_c p { b with sig := a.sig } zc hp
  have hvs : verify p (core a) a.sig = verifyA p a := by unfold verifyA; rw [ra]; rfl
  have sgr : -9223372036854775808 ≤ a.sig.e ∧ a.sig.e ≤ 9223372036854775807 := by simp only [sigR, Bool.and_eq_true, wi_iff] at sa; omega
  have vs := verify_c p (core a) a.sig core_len hp sgr
  rw [hvs] at vs
  have k1 := same_c a b ⟨za.to, za.wraps⟩ ⟨zb.to, zb.wraps⟩
  have k2 : AC _ _ [actV a, actV { b with sig := a.sig }] [] _ [] := same_c a { b with sig := a.sig } ⟨za.to, za.wraps⟩ ⟨zb.to, zb.wraps⟩
  have kba := bytes_c a za
  have kbb := bytes_c b zb
  have kca := core_c a za
  have kcb := core_c b zb
  have hveq : decide (a = b) = true → verifyA p a = verifyA p b := fun h => by rw [of_decide_eq_true h]
  have hceq : decide (a = { b with sig := a.sig }) = true → verifyA p { b with sig := a.sig } = verifyA p a := fun h => by rw [← of_decide_eq_true h]
  generalize decide (a = b) = d1 at *
  generalize decide (a = { b with sig := a.sig }) = d2 at *
  generalize verifyA p a = w1 at *
  generalize verifyA p b = w2 at *
  generalize verifyA p { b with sig := a.sig } = w3 at *
  generalize Ac.bytes a = ba at *
  generalize Ac.bytes b = bb at *
  generalize core a = ca at *
  generalize core b = cb at *
  clear ra rb rc za zb zc sa ha hb hvs
  refine run ?_
  refine cp k1 ?_
  refine run ?_
  refine cp kba ?_
  refine run ?_
  refine cp kbb ?_
  cases d1
  focus
    refine runf @e1 ?_
  rotate_left
  focus
    have hveq := hveq rfl
    subst hveq
    refine runf @e1 ?_
    refine cp va ?_
    refine run ?_
    refine cp vb ?_
    refine run ?_
  all_goals
    refine cp kca ?_
    refine run ?_
    refine cp kcb ?_
    refine runf @e2 ?_
    refine cp k2 ?_
    cases d2
    focus
      refine run ?_
    rotate_left
    focus
      have hceq := hceq rfl
      subst hceq
      refine run ?_
      refine cp vc ?_
      refine run ?_
      refine cp va ?_
      refine run ?_
    all_goals
      refine cp va ?_
      refine run ?_
      refine cp kca ?_
      refine run ?_
      refine cp vs ?_
      refine run ?_
      exact er0
theorem actSigns_c (a : Ac.Act) (k : Key) (ha : In a) (hk : -9223372036854775808 ≤ k.secret ∧ k.secret ≤ 9223372036854775807) : AC Tryd.prog 5 [actV a, keyV k] [] (.bo true) [] := by
  refine AC.enter [8, 9, 11, 18, 13, 14, 15, 17] [] Tryd.func5 rfl (by decide) (by decide) (Nat.le_of_ble_eq_true rfl) (by kernel_rfl) ?_; simp only [eraseC, eraseO, List.map_cons, List.map_nil, List.map_toArray, List.getElem?_toArray, List.getElem?_cons_zero, List.getElem?_cons_succ, Option.bind_some, Option.bind_none, List.append_eq, List.cons_append, List.nil_append]
  have za := ha.sz
  have z0 : Sz { a with sig := sig0 } := ⟨za.author, za.target, za.group, za.text, za.tos, za.to, za.wraps⟩
  refine run ?_
  refine cp small_c ?_
  refine run ?_
  refine cp (few_c a ha) ?_
  by_cases hf : few a = true
  rotate_left
  · rw [show few a = false by simpa using hf]
    refine run ?_
    exact er0
  rw [hf]
  have ks := signA_c k a za hk
  refine run ?_
  refine cp ks ?_
  refine run ?_
  refine cp (keyright_c k hk) ?_
  by_cases hkr : k.right = true
  rotate_left
  · have hkf : k.right = false := by simpa using hkr
    have k1 := same_c act0 act0 ⟨sz0.to, sz0.wraps⟩ ⟨sz0.to, sz0.wraps⟩
    rw [decide_eq_true rfl] at k1
    rw [hkf, sign_wrong (fun h => hkr h.2)]
    refine run ?_
    refine cp k1 ?_
    refine run ?_
    exact er0
  rw [hkr]
  refine run ?_
  refine cp (right_c { a with sig := sig0 } z0) ?_
  by_cases hr : right { a with sig := sig0 } = true
  rotate_left
  · have k1 := same_c act0 act0 ⟨sz0.to, sz0.wraps⟩ ⟨sz0.to, sz0.wraps⟩
    rw [decide_eq_true rfl] at k1
    rw [show right { a with sig := sig0 } = false by simpa using hr, sign_wrong (fun h => hr h.1)]
    refine run ?_
    refine cp k1 ?_
    refine run ?_
    exact er0
  rw [hr]
  obtain ⟨s1, s2, s3⟩ := sign_right hr hkr
  have s4 := sign_verify hr hkr
  have s5 : signA k (signA k a) = signA k a := by
    unfold signA
    have : ({ signA k a with sig := sig0 } : Ac.Act) = { a with sig := sig0 } := by rw [s1]
    unfold signA at this
    rw [this]
  have s6 : ({ signA k a with sig := sig0 } : Ac.Act) = { a with sig := sig0 } := by rw [s1]
  have zs := sz_right s2
  obtain ⟨_, _⟩ := pub_range hkr
  have v1 := verifyA_c k.pub (signA k a) zs (by omega)
  rw [s4] at v1
  have v2 := right_c (signA k a) zs
  rw [s2] at v2
  have v3 : AC _ _ [actV { signA k a with sig := sig0 }, actV { a with sig := sig0 }] [] _ [] := same_c { signA k a with sig := sig0 } { a with sig := sig0 } ⟨zs.to, zs.wraps⟩ ⟨z0.to, z0.wraps⟩
  rw [decide_eq_true s6] at v3
  have v4 := signA_c k (signA k a) zs hk
  rw [s5] at v4
  have v5 := same_c (signA k a) (signA k a) ⟨zs.to, zs.wraps⟩ ⟨zs.to, zs.wraps⟩
  rw [decide_eq_true rfl] at v5
  have v6 := core_c (signA k a) zs
  rw [s3] at v6
  have v7 : AC _ _ [actV { a with sig := sig0 }] [] _ [] := core_c { a with sig := sig0 } z0
  generalize signA k a = x at *
  generalize core { a with sig := sig0 } = c at *
  clear s1 s2 s3 s4 s5 s6 zs z0 za ha hr hkr
  refine run ?_
  refine cp v1 ?_
  refine run ?_
  refine cp v2 ?_
  refine run ?_
  refine cp v3 ?_
  refine run ?_
  refine cp v4 ?_
  refine run ?_
  refine cp v5 ?_
  refine run ?_
  refine cp v6 ?_
  refine run ?_
  refine cp v7 ?_
  refine run ?_
  exact er0
end Go.Proofs.YtgbmjknnadmcaaaDoor.Pe
