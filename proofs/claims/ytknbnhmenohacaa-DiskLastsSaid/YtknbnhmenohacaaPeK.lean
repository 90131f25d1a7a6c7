/- append, '[]byte(s)', 'make' of an empty slice as operations on plain values. Nothing of the program. -/
import Derived.Test.YtknbnhmenohacaaPeJ
namespace Go.Proofs.Ytknbnhmenohacaa.Pe
set_option linter.unusedSectionVars false
set_option linter.unusedVariables false
set_option linter.unusedSimpArgs false
open Go Go.RowKit
variable [Tab]
def fits (n by_ : Nat) : Bool := decide (n * by_ ≤ 140737488355328) && decide (n ≤ 140737488355328)
def aApp (P : Program) (t u : TypeId) (S : Store) (x y : AV) : Option (AV × Store) :=
  match appOf P t, srcOf P u y, x with
  | some (e, sz, by_), some ys, .sl (.own l) es => match S[l]? with
    | some (.buf n e' sz') => if n = es.length ∧ e' = e ∧ sz' = sz ∧ allSz sz es = true ∧ allSz sz ys = true ∧ fits (es.length + ys.length) by_ = true then
        some (.sl (.own l) (es ++ ys), S.set l (.buf (es.length + ys.length) e sz)) else none
    | _ => none
  | some (e, sz, by_), some ys, .sl .full es => if allSz sz es = true ∧ allSz sz ys = true ∧ fits (es.length + ys.length) by_ = true then
      some (.sl (.own S.length) (es ++ ys), S ++ [.buf (es.length + ys.length) e sz]) else none
  | _, _, _ => none
section
variable {P : Program} {w : World} {g : Gh} {S : Store}
theorem fits_spec {n b : Nat} (h : fits n b = true) : n * b ≤ 140737488355328 ∧ n ≤ 140737488355328 := by simpa [fits] using h
/-- the cells of a slice's value -/
theorem sl_cells {m : Mode} {es : List AV} {A : Option Addr} {c sz : Nat} (h : Rel w g (.sl m es) (.slice A es.length c)) (hsz : ∀ e ∈ es, e.cells.length = sz) :
    ∃ us : List Value, us.length = es.length * sz ∧ CellsRel w g.noid (flat es) us.toArray ∧ (∀ w' : World, (∀ p, w'.cell? p = w.cell? p) → (Builtin.firstCells sz es.length (.slice A es.length c)).run P w' = .ok us.toArray w') ∧
      ∀ b, A = some ⟨b, 0, none⟩ → ∀ (j : Nat) u, us[j]? = some u → w.cell? ⟨b, j, none⟩ = some u := by
  cases h with
  | sl _ _ _ _ _ sz0 cu hc hcm hsz0 hA h1 hr hm =>
    have hfl := flat_length hsz
    refine ⟨(List.range (flat es).length).map cu, by simp [hfl], ⟨by simp, fun v hv => ?_, fun j u v hu hv => ?_⟩, fun w' hw' => ?_, fun b hb j u hu => ?_⟩
    · simp only [List.mem_map, List.mem_range] at hv
      obtain ⟨j, hj, rfl⟩ := hv
      exact h1 j hj
    · have hj := (List.getElem?_eq_some_iff.1 hu).1
      simp [List.getElem?_range hj] at hv
      rw [← hv]
      exact hr j u hu
    · rcases Nat.eq_zero_or_pos es.length with h0 | h0
      · have : es = [] := List.eq_nil_of_length_eq_zero h0
        subst this
        cases A with
        | none => simp [Builtin.firstCells, flat]
        | some a => simp [Builtin.firstCells, flat, loadCells, loadCellsFrom]
      · obtain ⟨b, o, rfl, hcell⟩ := hA h0
        exact run_firstCells_some (P := P) w' sz es.length ⟨b, o, none⟩ es.length c ((List.range (flat es).length).map cu) (by simp [hfl]) (fun j v hv => by
          rw [List.getElem?_map] at hv
          obtain ⟨k, hk, rfl⟩ := Option.map_eq_some_iff.1 hv
          obtain ⟨hlt, he⟩ := List.getElem?_eq_some_iff.1 hk
          simp at he hlt
          subst he
          rw [Addr.add_lit, hw', (hcell j hlt).2])
    · rw [List.getElem?_map] at hu
      obtain ⟨k, hk, rfl⟩ := Option.map_eq_some_iff.1 hu
      obtain ⟨hlt, he⟩ := List.getElem?_eq_some_iff.1 hk
      simp at he hlt
      subst he
      have h0 : 0 < es.length := by
        rcases Nat.eq_zero_or_pos es.length with h0 | h0
        · rw [hfl, h0] at hlt; omega
        · exact h0
      obtain ⟨b', o, hb', hcell⟩ := hA h0
      rw [hb] at hb'
      cases hb'
      have := (hcell j hlt).2
      rw [Nat.zero_add] at this
      exact this
theorem zeroCells_sz (z : Array Value) (n sz : Nat) (h : z.size = sz) : (Builtin.zeroCells z n).size = n * sz := by rw [size_zeroCells, h]
theorem aApp_ok {t u ty : TypeId} {x y v : AV} {S' : Store} {cx cy : Value} (h : aApp P t u S x y = some (v, S')) (hw : WF w g S) (hx : Rel w g x cx) (hy : Rel w g y cy) :
    ∃ cv w' g', (Builtin.append_ #[t, u] ty #[cx, cy]).run P w = .ok cv w' ∧ WF w' g' S' ∧ Rel w' g' v cv ∧ Evo w g w' g' := by
  unfold aApp at h
  split at h
  · rename_i e sz by_ ys l es ht hs
    obtain ⟨hut, hsz0, i, z, hi, hz, rfl, rfl, hzs⟩ := appOf_spec ht
    split at h
    · rename_i n e' sz' hS
      split at h
      · rename_i hcond
        obtain ⟨rfl, rfl, rfl, hall, hall', hfit⟩ := hcond
        cases h
        obtain ⟨hf1, hf2⟩ := fits_spec hfit
        have hsz1 := allSz_spec hall
        have hsz2 := allSz_spec hall'
        obtain ⟨vs, hsrc, hvs⟩ := src_ok hs hy hall'
        have hx' := hx
        cases hx with
        | sl _ _ _ A c sz0 cu hc hcm hsz hA h1 hr hm =>
          obtain ⟨us, hus1, hus2, hus3, hus4⟩ := sl_cells (P := P) hx' hsz1
          have hsz12 : ∀ e ∈ es ++ ys, e.cells.length = i.size := fun e he => by
            rcases List.mem_append.1 he with he | he
            · exact hsz1 e he
            · exact hsz2 e he
          rcases Nat.eq_zero_or_pos ys.length with h0 | h0
          · have hy0 : ys = [] := List.eq_nil_of_length_eq_zero h0
            subst hy0
            have hv0 : vs = [] := by
              have := hsrc.size
              simp at this
              exact this
            subst hv0
            refine ⟨_, w, g, app_zero hut hi hsrc hc, ?_, by simpa using hx', Evo.refl w g⟩
            have : S.set l (.buf (es.length + 0) e' i.size) = S := by
              rw [Nat.add_zero]
              refine List.ext_getElem? fun k => ?_
              by_cases hk : k = l
              · subst hk
                rw [List.getElem?_set_self (List.getElem?_eq_some_iff.1 hS).1, hS]
              · rw [List.getElem?_set_ne (fun e => hk e.symm)]
            rw [List.length_nil, this]
            exact hw
          · by_cases hroom : es.length + ys.length ≤ c
            · obtain ⟨hl, hbuf, hwm, hmode⟩ := hm
              have hgw : g.wm l = es.length := (hw.obj l _ hS).2.1
              rcases hmode with hmode | hmode | ⟨rfl, rfl⟩
              · omega
              · omega
              · obtain ⟨_, _, hrow⟩ := hw.obj l _ hS
                rcases hrow with hrow | ⟨hown, _, hnc, hG, cur, fr, hb, hfr, hcs⟩
                · rw [hrow] at hroom; omega
                · have hle : (es.length + ys.length) * i.size ≤ g.cap l * i.size := Nat.mul_le_mul_right _ hroom
                  rw [Nat.add_mul] at hle
                  have htake : cur.toList.take (es.length * i.size) = us := by
                    refine List.ext_getElem? fun j => ?_
                    by_cases hj : j < es.length * i.size
                    · rw [List.getElem?_take_of_lt hj]
                      have hju : us[j]? = some us[j] := List.getElem?_eq_getElem (by omega)
                      have := hus4 (g.pl l) rfl j _ hju
                      rw [cell_of_row w _ j cur e' fr hb] at this
                      rw [hju, ← this]
                      simp
                    · rw [List.getElem?_take_eq_none (by omega), List.getElem?_eq_none (by omega)]
                  obtain ⟨g', h5, h6, h7⟩ := hw.extend (ys := ys) hS rfl h0 (by omega) hb hroom hcm hsz12 us vs htake hus2 hvs
                  refine ⟨_, _, g', app_room hut hi hsrc hb hfr hroom ?_, h5, h7, h6⟩
                  rw [hsrc.size]; omega
            · have hrun := app_grow (ty := ty) hut hi hz hsrc (hus3 w.drew (fun _ => rfl)) (by omega) (by omega) (growslice_fits (by omega) hf1)
              have hge := grownCap_ge w (es.length + ys.length) c e'
              have hcm' : grownCap w (es.length + ys.length) c e' ≤ maxLen := grownCap_le_maxLen w _ c e' (by simp only [maxLen]; omega)
              have hlen : (es ++ ys).length = es.length + ys.length := List.length_append
              have hvl := hsrc.size
              obtain ⟨g', h5, h6, h7⟩ := (hw.draw (w.drawn + 1)).regrow (es := es ++ ys) (cur := us.toArray ++ vs.toArray ++ Builtin.zeroCells z.cells (grownCap w (es.length + ys.length) c e' - (es.length + ys.length))) (cap := grownCap w (es.length + ys.length) c e') (fr := (0, 0)) hS (by rw [hlen]; omega) hsz0 hsz12 (by rw [hlen]; exact hge) hcm' (by
                  simp only [Array.size_append, List.size_toArray, zeroCells_sz _ _ _ hzs, hus1, hvl, ← Nat.add_mul]
                  congr 1
                  omega) (.inl (by simp)) (us ++ vs) (by
                  rw [flat_append]
                  refine ⟨by have := hus2.1; have := hvs.1; simp at *; omega, fun v hv => ?_, fun j u v hu hv => ?_⟩
                  · rcases List.mem_append.1 hv with hv | hv
                    · exact hus2.2.1 v hv
                    · exact hvs.2.1 v hv
                  · have hl1 : (flat es).length = us.length := by have := hus2.1; simpa using this.symm
                    simp only [List.getElem?_toArray] at hv
                    rw [List.getElem?_append] at hu hv
                    rw [hl1] at hu
                    split at hu
                    · rename_i hc; rw [if_pos hc] at hv; exact (hus2.2.2 j u v hu (by simpa using hv)).le (Evo.draw w g _).toLe.noid
                    · rename_i hc; rw [if_neg hc] at hv; exact (hvs.2.2 _ u v hu (by simpa using hv)).le (Evo.draw w g _).toLe.noid) (by
                  simp only [Array.toList_append, List.append_assoc]
                  rw [← List.append_assoc, List.take_left])
              rw [hlen] at h5 h7
              exact ⟨_, _, g', hrun, h5, h7, (Evo.draw w g _).trans h6⟩
      · cases h
    · cases h
  · rename_i e sz by_ ys es ht hs
    obtain ⟨hut, hsz0, i, z, hi, hz, rfl, rfl, hzs⟩ := appOf_spec ht
    split at h
    · rename_i hcond
      obtain ⟨hall, hall', hfit⟩ := hcond
      cases h
      obtain ⟨hf1, hf2⟩ := fits_spec hfit
      have hsz1 := allSz_spec hall
      have hsz2 := allSz_spec hall'
      obtain ⟨vs, hsrc, hvs⟩ := src_ok hs hy hall'
      have hx' := hx
      cases hx with
      | sl _ _ _ A c sz0 cu hc hcm hsz hA h1 hr hm =>
        have hcn : c = es.length := hm
        obtain ⟨us, hus1, hus2, hus3, hus4⟩ := sl_cells (P := P) hx' hsz1
        have hsz12 : ∀ e ∈ es ++ ys, e.cells.length = i.size := fun e he => by
          rcases List.mem_append.1 he with he | he
          · exact hsz1 e he
          · exact hsz2 e he
        rcases Nat.eq_zero_or_pos ys.length with h0 | h0
        · have hy0 : ys = [] := List.eq_nil_of_length_eq_zero h0
          subst hy0
          have hv0 : vs = [] := by
            have := hsrc.size
            simp at this
            exact this
          subst hv0
          obtain ⟨g', h5, h6, h7, h8, h9⟩ := hw.reserve es.length e i.size
          refine ⟨_, w, g', app_zero hut hi hsrc hc, by simpa using h5, ?_, h6⟩
          have hr' := hx'.le h6.toLe
          rw [List.append_nil]
          cases hr' with
          | sl _ _ _ _ _ sz0 cu hc hcm hsz hA h1 hr hm =>
            refine .sl _ _ es A c sz0 cu hc hcm hsz hA h1 hr ⟨?_, ?_, ?_, .inr (.inl hcn)⟩
            · rw [h7, ← hw.nid]; omega
            · rw [← hw.nid]; exact h8
            · rw [← hw.nid, h9]; exact Nat.le_refl _
        · have hrun := app_grow (ty := ty) hut hi hz hsrc (hus3 w.drew (fun _ => rfl)) (by omega) (by omega) (growslice_fits (by omega) hf1)
          have hge := grownCap_ge w (es.length + ys.length) c e
          have hcm' : grownCap w (es.length + ys.length) c e ≤ maxLen := grownCap_le_maxLen w _ c e (by simp only [maxLen]; omega)
          have hlen : (es ++ ys).length = es.length + ys.length := List.length_append
          have hvl := hsrc.size
          obtain ⟨g', h5, h6, h7⟩ := (hw.draw (w.drawn + 1)).new_buf (es := es ++ ys) (cur := us.toArray ++ vs.toArray ++ Builtin.zeroCells z.cells (grownCap w (es.length + ys.length) c e - (es.length + ys.length))) (e := e) (cap := grownCap w (es.length + ys.length) c e) (fr := (0, 0)) hsz0 hsz12 (by rw [hlen]; exact hge) hcm' (by
              simp only [Array.size_append, List.size_toArray, zeroCells_sz _ _ _ hzs, hus1, hvl, ← Nat.add_mul]
              congr 1
              omega) (.inl (by simp)) (us ++ vs) (by
              rw [flat_append]
              refine ⟨by have := hus2.1; have := hvs.1; simp at *; omega, fun v hv => ?_, fun j u v hu hv => ?_⟩
              · rcases List.mem_append.1 hv with hv | hv
                · exact hus2.2.1 v hv
                · exact hvs.2.1 v hv
              · have hl1 : (flat es).length = us.length := by have := hus2.1; simpa using this.symm
                simp only [List.getElem?_toArray] at hv
                rw [List.getElem?_append] at hu hv
                rw [hl1] at hu
                split at hu
                · rename_i hc; rw [if_pos hc] at hv; exact (hus2.2.2 j u v hu (by simpa using hv)).le (Evo.draw w g _).toLe.noid
                · rename_i hc; rw [if_neg hc] at hv; exact (hvs.2.2 _ u v hu (by simpa using hv)).le (Evo.draw w g _).toLe.noid) (by
              simp only [Array.toList_append, List.append_assoc]
              rw [← List.append_assoc, List.take_left])
          rw [hlen] at h5 h7
          exact ⟨_, _, g', hrun, h5, h7, (Evo.draw w g _).trans h6⟩
    · cases h
  · cases h
theorem does_append {o : Oper} {e : Env} {v : AV} {S' : Store} {x y : Operand} {t u : TypeId} (ho : o.op = .call { callee := .builtin .append, args := #[x, y], argTypes := #[t, u] }) (h : aApp P t u S (ev e x) (ev e y) = some (v, S')) : Does P o e S v S' :=
  does_value fun ρ w g hw hr => by
    have hx := hr x (by rw [ho]; simp [Op.operands, Call.operands])
    have hy := hr y (by rw [ho]; simp [Op.operands, Call.operands])
    obtain ⟨cv, w', g', h1, h2, h3, h4⟩ := aApp_ok (ty := o.type) h hw hx hy
    refine ⟨cv, w', g', ?_, h2, h3, h4⟩
    unfold execOp
    simp only [ho]
    show Sem.run P (do let d ← resolve ρ _ o.type; invoke d.target d.args) w = _
    simp only [resolve, Sem.run_bind, Sem.run_pure, Result.andThen_ok, invoke, builtin, List.map_toArray, List.map_cons, List.map_nil, h1]
/- the bytes of a string, to be appended to -/
theorem does_bytes {o : Oper} {e : Env} {x : Operand} {s d el : TypeId} {l : List UInt8} (ho : o.op = .convert s d x) (hs : kdOf P s = .str) (hd : P.underlying d = some (.slice el)) (he : P.underlying el = some (.int .u8)) (hx : ev e x = .st l) (hm : l.length ≤ 140737488355328) :
    Does P o e S (.sl (.own S.length) (l.map u8)) (S ++ [.buf l.length el 1]) :=
  does_value fun ρ w g hw hr => by
    have h := hr x (by rw [ho]; simp [Op.operands])
    rw [hx] at h
    generalize hcx : ρ x = cx at h
    cases h
    have hsize : (⟨l.toArray⟩ : ByteArray).size = l.length := by simp [ByteArray.size]
    have hrun := run_bytes_of_string (P := P) w s d el ⟨l.toArray⟩ (kd_str hs) hd he
    have hge := grownCap_ge w (⟨l.toArray⟩ : ByteArray).size 0 el
    have hcm := grownCap_le_maxLen w (⟨l.toArray⟩ : ByteArray).size 0 el (by rw [hsize]; unfold maxLen; omega)
    obtain ⟨g', h5, h6, h7⟩ := (hw.draw (w.drawn + 1)).new_buf (es := l.map u8) (cur := bytesRow ⟨l.toArray⟩ (grownCap w (⟨l.toArray⟩ : ByteArray).size 0 el)) (e := el) (sz := 1) (cap := grownCap w (⟨l.toArray⟩ : ByteArray).size 0 el) (fr := ((bytesRow ⟨l.toArray⟩ (grownCap w (⟨l.toArray⟩ : ByteArray).size 0 el)).size, (bytesRow ⟨l.toArray⟩ (grownCap w (⟨l.toArray⟩ : ByteArray).size 0 el)).size + 1)) (by omega) (fun v hv => by
        obtain ⟨b, _, rfl⟩ := List.mem_map.1 hv; rfl) (by rw [List.length_map]; rw [hsize] at hge; exact hge) hcm (by
        simp only [bytesRow, Array.size_append, Array.size_map, Array.size_replicate, Nat.mul_one]
        have e1 : (⟨l.toArray⟩ : ByteArray).data.size = l.length := by simp
        have e2 : l.toArray.size = l.length := by simp
        have e3 := hge
        rw [hsize] at e3 ⊢
        omega) (.inr (Nat.le_refl _)) (l.map w8) (by
        rw [flat_u8]
        refine ⟨by simp, oneCell_map8 l, fun j u v hu hv => ?_⟩
        rw [List.getElem?_map] at hu
        obtain ⟨b, hb, rfl⟩ := Option.map_eq_some_iff.1 hu
        simp [hb] at hv
        rw [← hv]
        exact .it _ _ _) (by
        simp only [bytesRow, Array.toList_append, Array.toList_map, Array.toList_replicate, List.length_map]
        rw [List.take_append_of_le_length (by simp)]
        rw [List.take_of_length_le (by simp)]
        rfl)
    rw [List.length_map] at h5 h7
    rw [hsize] at hrun h7
    refine ⟨_, _, g', ?_, h5, h7, (Evo.draw w g _).trans h6⟩
    unfold execOp
    simp only [ho, hcx, Sem.run_bind, hrun, Result.andThen_ok, Sem.run_pure]
    rfl
end
end Go.Proofs.Ytknbnhmenohacaa.Pe
