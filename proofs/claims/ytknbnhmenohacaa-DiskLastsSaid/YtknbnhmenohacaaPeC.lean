/- Further operations that leave memory alone, on plain values. Nothing of the program. -/
import Derived.Test.YtknbnhmenohacaaPeB
namespace Go.Proofs.Ytknbnhmenohacaa.Pe
set_option linter.unusedSectionVars false
set_option linter.unusedVariables false
set_option linter.unusedSimpArgs false
open Go Go.RowKit
def u8 (b : UInt8) : AV := .it .u8 (b.toNat : Int)
def bytesOf : List AV → Option (List UInt8)
  | [] => some []
  | v :: r => match v, bytesOf r with
    | .it .u8 n, some l => if 0 ≤ n ∧ n < 256 then some (UInt8.ofNat n.toNat :: l) else none
    | _, _ => none
theorem ofNat_u8 (b : UInt8) : UInt8.ofNat ((b.toNat : Int)).toNat = b := by simp
theorem bytesOf_map (l : List UInt8) : bytesOf (l.map u8) = some l := by
  induction l with
  | nil => rfl
  | cons b l ih =>
    have := b.toNat_lt
    simp only [List.map_cons, bytesOf, u8, ih]
    rw [if_pos (by omega), ofNat_u8]
theorem bytesOf_spec : ∀ {es : List AV} {l : List UInt8}, bytesOf es = some l → es = l.map u8
  | [], l, h => by simp [bytesOf] at h; subst h; rfl
  | v :: r, l, h => by
    simp only [bytesOf] at h
    split at h
    · rename_i n l' hl'
      split at h
      · rename_i h0
        cases h
        simp only [List.map_cons, u8]
        rw [bytesOf_spec hl']
        have : (UInt8.ofNat n.toNat).toNat = n.toNat := by simp; omega
        rw [this, Int.toNat_of_nonneg h0.1]
      · cases h
    · cases h
theorem bytesOf_append {xs ys : List AV} {a b : List UInt8} (h : bytesOf xs = some a) (h' : bytesOf ys = some b) : bytesOf (xs ++ ys) = some (a ++ b) := by
  rw [bytesOf_spec h, bytesOf_spec h', ← List.map_append, bytesOf_map]
theorem flat_u8 (l : List UInt8) : flat (l.map u8) = l.map u8 := by
  induction l with
  | nil => rfl
  | cons b l ih => simp only [List.map_cons, flat, List.flatMap_cons, AV.cells, u8] at *; rw [ih]; rfl
def aUn (op : UnOp) (x : AV) : Option AV :=
  match op, x with
  | .not, .bo b => some (.bo (!b))
  | .neg, .it k n => some (.it k (k.wrap (0 - n)))
  | .xor, .it k n => some (.it k (Go.bits .xor k (if k.signed then -1 else k.max) n))
  | _, _ => none
def aConv (P : Program) (s d : TypeId) (x : AV) : Option AV :=
  match kdOf P d, x with
  | .int k, .it _ n => if kdOf P s = .other then none else some (.it k (k.wrap n))
  | .str, .st l => if kdOf P s = .str then some (.st l) else none
  | .str, .sl _ es => if kdOf P s = .bytes then (bytesOf es).map .st else none
  | _, _ => none
def aBound (x : Option AV) (d : Nat) : Option Nat :=
  match x with
  | none => some d
  | some (.it _ n) => if 0 ≤ n then some n.toNat else none
  | _ => none
def allSz (sz : Nat) (es : List AV) : Bool := es.all fun v => v.cells.length == sz
def modeCut (m : Mode) (full : Bool) : Mode := match m, full with | .full, true => .full | _, _ => .ro
def aSlice (P : Program) (t : TypeId) (x : AV) (lo hi mx : Option AV) : Option AV :=
  match x with
  | .st l => if kdOf P t = .str ∧ mx.isNone = true then
      match aBound lo 0, aBound hi l.length with
      | some a, some b => if a ≤ b ∧ b ≤ l.length then some (.st ((l.take b).drop a)) else none
      | _, _ => none
      else none
  | .sl m es => match sleOf P t, aBound lo 0, aBound hi es.length, mx with
    | some (_, sz, _), some a, some b, none => if a ≤ b ∧ b ≤ es.length ∧ allSz sz es = true then
        some (.sl (modeCut m (b == es.length)) ((es.take b).drop a)) else none
    | some (_, sz, _), some a, some b, some c => match hi, aBound (some c) 0 with
      | some _, some c => if a ≤ b ∧ b ≤ c ∧ c ≤ es.length ∧ allSz sz es = true then some (.sl (if c = b then .full else .ro) ((es.take b).drop a)) else none
      | _, _ => none
    | _, _, _, _ => none
  | _ => none
section
variable {P : Program} {w : World} {g : Gh}
theorem aUn_ok {op : UnOp} {x v : AV} {cx : Value} (h : aUn op x = some v) (hx : Rel w g x cx) : ∃ cv, (Op.unary op cx).run P w = .ok cv w ∧ Rel w g v cv := by
  unfold aUn at h
  split at h
  · cases hx; cases h; exact ⟨_, by simp [Op.unary], .bo g _⟩
  · cases hx; cases h; exact ⟨_, by simp [Op.unary, Op.intArith], .it g _ _⟩
  · cases hx; cases h; exact ⟨_, by simp only [Op.unary]; rfl, .it g _ _⟩
  · cases h
theorem kd_some {t : TypeId} (h : kdOf P t ≠ .other) : ∃ d, P.underlying t = some d := by
  unfold kdOf at h
  cases hd : P.underlying t with
  | none => rw [hd] at h; simp at h
  | some d => exact ⟨d, rfl⟩
theorem aConv_ok {s d : TypeId} {x v : AV} {cx : Value} (h : aConv P s d x = some v) (hx : Rel w g x cx) : ∃ cv, (convert s d cx).run P w = .ok cv w ∧ Rel w g v cv := by
  unfold aConv at h
  split at h
  · rename_i k _ n hk
    cases hx
    split at h
    · cases h
    · rename_i hs
      cases h
      obtain ⟨ds, hds⟩ := kd_some hs
      exact ⟨_, by simp [convert, run_underlying hds, run_underlying (kd_int hk), Conv.intToInt], .it g _ _⟩
  · rename_i l hk
    cases hx
    split at h
    · rename_i hs
      cases h
      exact ⟨_, by simp [convert, run_underlying (kd_str hs), run_underlying (kd_str hk)], .st g _⟩
    · cases h
  · rename_i m es hk
    split at h
    · rename_i hs
      obtain ⟨l, hl, rfl⟩ := Option.map_eq_some_iff.1 h
      obtain ⟨e, he1, he2⟩ := kd_bytes hs
      have hes := bytesOf_spec hl
      subst hes
      cases hx with
      | sl _ _ _ A c sz cu hc hcm hsz hA h1 hr hm =>
        rw [List.length_map] at *
        rw [flat_u8] at *
        have hcell : ∀ j (hj : j < l.length), cu j = .int .u8 (l[j].toNat : Int) := by
          intro j hj
          have := hr j (u8 l[j]) (by simp [List.getElem?_eq_getElem hj])
          simp only [u8] at this
          generalize cu j = z at this
          cases this
          rfl
        refine ⟨.string ⟨l.toArray⟩, ?_, .st g l⟩
        rcases Nat.eq_zero_or_pos l.length with h0 | h0
        · have hl0 : l = [] := List.eq_nil_of_length_eq_zero h0
          subst hl0
          rcases A with _ | ad
          · rw [run_convert_bytes_string w s d e none _ c he1 he2 (kd_str hk)]
            simp [Conv.bytesToString]
            rfl
          · exact run_convert_bytes_back w s d e ad c [] he1 he2 (kd_str hk) (fun j hj => by simp at hj)
        · obtain ⟨b, o, rfl, hcells⟩ := hA h0
          refine run_convert_bytes_back w s d e ⟨b, o, none⟩ c l he1 he2 (kd_str hk) (fun j hj => ?_)
          rw [Addr.add_lit, (hcells j (by simpa using hj)).2, hcell j hj]
    · cases h
  · cases h
theorem allSz_spec {sz : Nat} {es : List AV} (h : allSz sz es = true) : ∀ e ∈ es, e.cells.length = sz := fun e he => by simpa using (List.all_eq_true.1 h) e he
theorem flat_length {sz : Nat} {es : List AV} (h : ∀ e ∈ es, e.cells.length = sz) : (flat es).length = es.length * sz := by
  induction es with
  | nil => simp [flat]
  | cons e es ih =>
    simp only [flat, List.flatMap_cons, List.length_append, List.length_cons] at *
    rw [h e (by simp), ih (fun x hx => h x (by simp [hx])), Nat.add_mul]
    omega
theorem flat_drop {sz : Nat} {es : List AV} (h : ∀ e ∈ es, e.cells.length = sz) (a : Nat) : flat (es.drop a) = (flat es).drop (a * sz) := by
  induction es generalizing a with
  | nil => simp [flat]
  | cons e es ih =>
    cases a with
    | zero => simp
    | succ a =>
      have h1 := h e (by simp)
      rw [List.drop_succ_cons, ih (fun x hx => h x (by simp [hx]))]
      simp only [flat, List.flatMap_cons]
      rw [Nat.add_mul, Nat.one_mul, Nat.add_comm, ← List.drop_drop, List.drop_left' h1]
theorem flat_take {sz : Nat} {es : List AV} (h : ∀ e ∈ es, e.cells.length = sz) (a : Nat) : flat (es.take a) = (flat es).take (a * sz) := by
  induction es generalizing a with
  | nil => simp [flat]
  | cons e es ih =>
    cases a with
    | zero => simp [flat]
    | succ a =>
      have h1 := h e (by simp)
      rw [List.take_succ_cons]
      have := ih (fun x hx => h x (by simp [hx])) a
      simp only [flat, List.flatMap_cons] at *
      rw [this, Nat.add_mul, Nat.one_mul, Nat.add_comm, ← h1, List.take_length_add_append]
theorem flat_append (xs ys : List AV) : flat (xs ++ ys) = flat xs ++ flat ys := by simp [flat]
theorem run_bound {k : IntKind} {i : Int} {y : Nat} {code : BoundsCode} (h0 : 0 ≤ i) (h1 : i.toNat ≤ y) : (Instr.sliceBound (.int k i) y code).run P w = .ok i.toNat w := by
  have : 0 ≤ i ∧ i ≤ y := by omega
  simp [Instr.sliceBound, asIntOf, this]
/-- a bound's value -/
def BRel (w : World) (g : Gh) : Option AV → Option Value → Prop
  | none, none => True
  | some v, some cv => Rel w g v cv
  | _, _ => False
theorem aBound_some {x : AV} {cx : Value} {d n : Nat} (h : aBound (some x) d = some n) (hx : Rel w g x cx) : ∃ k i, cx = .int k i ∧ 0 ≤ i ∧ n = i.toNat := by
  unfold aBound at h
  split at h
  · rename_i heq; cases heq
  · rename_i k m heq
    cases heq
    cases hx
    split at h
    · rename_i h0
      cases h
      exact ⟨_, _, rfl, h0, rfl⟩
    · cases h
  · cases h
theorem bounds_none {isS : Bool} {len cap a b : Nat} {lo hi : Option AV} {clo chi : Option Value} (ha : aBound lo 0 = some a) (hb : aBound hi len = some b) (hl : BRel w g lo clo) (hh : BRel w g hi chi)
    (h1 : a ≤ b) (h2 : b ≤ cap) : (Instr.sliceBounds isS len cap clo chi none).run P w = .ok (a, b, cap) w := by
  cases lo <;> cases clo <;> simp only [BRel] at hl <;> cases hi <;> cases chi <;> simp only [BRel] at hh
  · simp only [aBound, Option.some.injEq] at ha hb
    subst ha; subst hb
    simp [Instr.sliceBounds]
  · simp only [aBound, Option.some.injEq] at ha
    obtain ⟨k, i, rfl, h0, rfl⟩ := aBound_some hb hh
    subst ha
    simp [Instr.sliceBounds, run_bound h0 h2]
  · simp only [aBound, Option.some.injEq] at hb
    obtain ⟨k, i, rfl, h0, rfl⟩ := aBound_some ha hl
    subst hb
    simp [Instr.sliceBounds, run_bound h0 h1]
  · obtain ⟨k, i, rfl, h0, rfl⟩ := aBound_some ha hl
    obtain ⟨k', i', rfl, h0', rfl⟩ := aBound_some hb hh
    simp [Instr.sliceBounds, run_bound h0 h1, run_bound h0' h2]
theorem bounds_max {isS : Bool} {len cap a b c : Nat} {lo : Option AV} {hi mx : AV} {clo : Option Value} {chi cmx : Value} (ha : aBound lo 0 = some a) (hb : aBound (some hi) len = some b) (hc : aBound (some mx) 0 = some c)
    (hl : BRel w g lo clo) (hh : Rel w g hi chi) (hm : Rel w g mx cmx) (h1 : a ≤ b) (h2 : b ≤ c) (h3 : c ≤ cap) : (Instr.sliceBounds isS len cap clo (some chi) (some cmx)).run P w = .ok (a, b, c) w := by
  obtain ⟨k, i, rfl, h0, rfl⟩ := aBound_some hb hh
  obtain ⟨k', i', rfl, h0', rfl⟩ := aBound_some hc hm
  cases lo <;> cases clo <;> simp only [BRel] at hl
  · simp only [aBound, Option.some.injEq] at ha
    subst ha
    simp [Instr.sliceBounds, run_bound h0 h2, run_bound h0' h3]
  · obtain ⟨k2, i2, rfl, h02, rfl⟩ := aBound_some ha hl
    simp [Instr.sliceBounds, run_bound h0 h2, run_bound h0' h3, run_bound h02 h1]
theorem Rel.sub {m m' : Mode} {es : List AV} {A : Option Addr} {c sz a b c' : Nat} (h : Rel w g (.sl m es) (.slice A es.length c)) (hs : allSz sz es = true) (h1 : a ≤ b) (h2 : b ≤ es.length) (h3 : b ≤ c') (h4 : c' ≤ c)
    (hm : m' = .ro ∨ (m' = .full ∧ c' = b)) : Rel w g (.sl m' ((es.take b).drop a)) (.slice (if c' = a then A else A.map (·.add (a * sz))) (b - a) (c' - a)) := by
  have hsz' := allSz_spec hs
  cases h with
  | sl _ _ _ _ _ sz0 cu hc hcm hsz hA h1' hr hm' =>
    have hlen : ((es.take b).drop a).length = b - a := by rw [List.length_drop, List.length_take, Nat.min_eq_left h2]
    have hfl : flat ((es.take b).drop a) = ((flat es).take (b * sz)).drop (a * sz) := by
      rw [flat_drop (fun e he => hsz' e (List.mem_of_mem_take he)), flat_take hsz']
    have hget : ∀ j u, (flat ((es.take b).drop a))[j]? = some u → (flat es)[a * sz + j]? = some u := by
      intro j u hu
      rw [hfl, List.getElem?_drop, List.getElem?_take] at hu
      split at hu
      · exact hu
      · cases hu
    have hlt : ∀ j, j < (flat ((es.take b).drop a)).length → a * sz + j < (flat es).length := by
      intro j hj
      have := hget j _ (List.getElem?_eq_getElem hj)
      exact (List.getElem?_eq_some_iff.1 this).1
    rw [← hlen]
    refine .sl g m' _ _ _ sz (fun j => cu (a * sz + j)) (by omega) (by omega) (fun e he => hsz' e (List.mem_of_mem_take (List.mem_of_mem_drop he))) (fun h0 => ?_) (fun j hj => h1' _ (hlt j hj)) (fun j u hu => hr _ u (hget j u hu)) ?_
    · obtain ⟨bk, o, rfl, hcells⟩ := hA (by omega)
      refine ⟨bk, o + a * sz, ?_, fun j hj => ?_⟩
      · rw [if_neg (by omega)]
        simp [Addr.add_lit]
      · have := hcells _ (hlt j hj)
        rw [Nat.add_assoc]
        exact this
    · rcases hm with rfl | ⟨rfl, rfl⟩
      · trivial
      · exact hlen.symm
theorem aSlice_ok {t : TypeId} {x v : AV} {lo hi mx : Option AV} {cx : Value} {clo chi cmx : Option Value} (h : aSlice P t x lo hi mx = some v) (hx : Rel w g x cx) (hl : BRel w g lo clo) (hh : BRel w g hi chi) (hm : BRel w g mx cmx) :
    ∃ cv, (Instr.sliceAt t cx clo chi cmx).run P w = .ok cv w ∧ Rel w g v cv := by
  unfold aSlice at h
  split at h
  · rename_i l
    cases hx
    split at h
    · rename_i hk
      obtain ⟨hk, hmx⟩ := hk
      have hmx : mx = none := by simpa using hmx
      subst hmx
      cases cmx <;> simp only [BRel] at hm
      split at h
      · rename_i a b ha hb
        split at h
        · rename_i hab
          cases h
          have hs : (⟨l.toArray⟩ : ByteArray).size = l.length := by simp [ByteArray.size]
          have := bounds_none (P := P) (isS := false) (cap := l.length) ha hb hl hh hab.1 hab.2
          refine ⟨.string ⟨((l.take b).drop a).toArray⟩, ?_, .st g _⟩
          have e : (⟨l.toArray⟩ : ByteArray).extract a b = ⟨((l.take b).drop a).toArray⟩ := by
            apply ByteArray.ext
            simp [ByteArray.data_extract, List.drop_take]
          simp [Instr.sliceAt, Instr.slice, run_underlying (kd_str hk), hs, this, e]
        · cases h
      · cases h
    · cases h
  · rename_i m es
    split at h
    · rename_i ty sz ag a b h1 h2 h3
      split at h
      · rename_i hab
        cases h
        obtain ⟨hu, hse⟩ := sleOf_spec h1
        cases cmx <;> simp only [BRel] at hm
        have hx' := hx
        cases hx with
        | sl _ _ _ A c sz0 cu hc hcm hsz hA h1' hr hm' =>
          have := bounds_none (P := P) (isS := true) (cap := c) h2 h3 hl hh hab.1 (by omega)
          have hr := Rel.sub (m' := modeCut m (b == es.length)) (c' := c) hx' hab.2.2 hab.1 hab.2.1 (by omega) (Nat.le_refl _) (by
            cases m with
            | full =>
              by_cases hb : b = es.length
              · subst hb
                exact .inr ⟨by simp [modeCut], hm'⟩
              · exact .inl (by simp [modeCut, hb])
            | ro => exact .inl rfl
            | own l => exact .inl rfl)
          refine ⟨_, ?_, hr⟩
          simp [Instr.sliceAt, Instr.slice, run_underlying hu, this, run_sizeOf hse]
      · cases h
    · rename_i ty sz ag a b c h1 h2 h3
      split at h
      · rename_i hi' c' hc'
        split at h
        · rename_i hab
          cases h
          obtain ⟨hu, hse⟩ := sleOf_spec h1
          cases cmx <;> simp only [BRel] at hm
          cases chi <;> simp only [BRel] at hh
          have hx' := hx
          cases hx with
          | sl _ _ _ A cap sz0 cu hc hcm hsz hA h1' hr hm' =>
            have := bounds_max (P := P) (isS := true) (cap := cap) h2 h3 hc' hl hh hm hab.1 hab.2.1 (by omega)
            have hr := Rel.sub (m' := if c' = b then .full else .ro) (c' := c') hx' hab.2.2.2 hab.1 (by omega) hab.2.1 (by omega) (by
              split
              · exact .inr ⟨rfl, by assumption⟩
              · exact .inl rfl)
            refine ⟨_, ?_, hr⟩
            simp [Instr.sliceAt, Instr.slice, run_underlying hu, this, run_sizeOf hse]
        · cases h
      · cases h
    · cases h
  · cases h
end
end Go.Proofs.Ytknbnhmenohacaa.Pe
