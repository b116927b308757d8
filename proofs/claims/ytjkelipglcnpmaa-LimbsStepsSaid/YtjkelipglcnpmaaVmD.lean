/- The machine on virtual values: a part of its definition or of its soundness proof. -/
import Derived.Test.YtjkelipglcnpmaaVmC
namespace Go.VM

/-- The table tells the truth of a type. -/
structure TyOK (P : Program) (t : TypeId) (i : TI) : Prop where
  info : (P.info? t).map (fun f => (f.size, f.zero.map fun z => z.cells.toList)) = some (i.size, some (VV.cellss id i.zero))
  desc : P.underlying t = some i.desc
  mem : VV.mems i.zero = true
  ids : VV.idss i.zero = []
  esz : match i.desc with | .array _ e => (P.info? e).map (·.size) = some i.esz | _ => True
  fsz : match i.desc with | .struct fs => fs.toList.map (fun f => (P.info? f.type).map (·.size)) = i.fsz.map some | _ => True
  eqs : i.plainEq = true → ∀ w xs ys b, VV.ws xs = i.size → eqR xs ys = some b → (Op.equal t (.agg (VV.cellss id xs).toArray) (.agg (VV.cellss id ys).toArray)).run P w = .ok b w ∧ P.eqGuardType P.depth t = false

def TyAll (P : Program) (ty : TypeId → Option TI) : Prop := ∀ t i, ty t = some i → TyOK P t i

/-- What a temporary may hold. -/
def VV.okL : VV → Prop
  | .pel _ _ n j _ => j < n
  | .tup l => VV.mems l = true
  | v => v.mem = true

theorem okL_of_mem {v : VV} (h : v.mem = true) : v.okL := by cases v <;> first | exact h | (simp [VV.mem] at h)

/-- A block as the model has it. -/
def obj (ρ : Nat → Nat) (b : Blk) : Obj := .cells (VV.cellss ρ b.1).toArray b.2 (0, 0)

/-- What an operand is. -/
def OpOK (ρ : Nat → Nat) (p : Nat → Prop) (L : List (Nat × VV)) (a : Act) (x : Operand) : Prop :=
  ∀ u, ev L x = some u → a.eval x = u.den ρ ∧ u.okL ∧ ∀ i ∈ u.ids, p i

/-- What memory is at a block. -/
def MmOK (ρ : Nat → Nat) (p : Nat → Prop) (M : List (Nat × Blk)) (w : World) (b : Nat) : Prop :=
  ∀ blk, getA M b = some blk → w.heap[ρ b]? = some (obj ρ blk) ∧ VV.mems blk.1 = true ∧ ∀ i ∈ VV.idss blk.1, p i

/-- What becomes of memory. -/
structure MStep (ρ : Nat → Nat) (n : Nat) (me : ME) (w w' : World) : Prop where
  os : w'.os = w.os
  tape : w'.tape = w.tape
  output : w'.output = w.output
  size : w.heap.size ≤ w'.heap.size
  at' : ∀ b blk, getA me.up b = some blk → w'.heap[ρ b]? = some (obj ρ blk)
  new : ∀ i, i < me.nn → w.heap.size ≤ ρ (n + i) ∧ (getA me.up (n + i)).isSome
  inj : ∀ i j, i < me.nn → j < me.nn → ρ (n + i) = ρ (n + j) → i = j
  kept : ∀ k, k < w.heap.size → (∀ b, (getA me.up b).isSome → ρ b ≠ k) → w'.heap[k]? = w.heap[k]?
  frz : ∀ ad, w'.frozen? ad = w.frozen? ad

/-- What is told of a result. -/
structure RStep (p : Nat → Prop) (n : Nat) (v : VV) (me : ME) : Prop where
  ok : v.okL
  ids : ∀ i ∈ v.ids, p i ∨ (n ≤ i ∧ i < n + me.nn)
  up : ∀ b blk, getA me.up b = some blk → (b ∈ me.rd ∨ (n ≤ b ∧ b < n + me.nn)) ∧ VV.mems blk.1 = true ∧ ∀ i ∈ VV.idss blk.1, p i ∨ (n ≤ i ∧ i < n + me.nn)
  rd : ∀ b ∈ me.rd, p b

theorem MStep.none (ρ : Nat → Nat) (n : Nat) (w : World) (rd : List Nat) : MStep ρ n { rd := rd } w w :=
  ⟨rfl, rfl, rfl, Nat.le_refl _, fun _ _ h => by simp [getA] at h, fun i h => absurd h (Nat.not_lt_zero i), fun i _ h => absurd h (Nat.not_lt_zero i), fun _ _ _ => rfl, fun _ => rfl⟩

/-- The operation's run. -/
def RunsTo (P : Program) (o : Oper) (a : Act) (w : World) (v : Value) (w' : World) : Prop :=
  (execOp a.eval o).run P w = .ok (.value v) w' ∨ ((execOp a.eval o).run P w = .ok .skip w' ∧ v = undef)

theorem ofConst_ints {k : IntKind} {l : List Value} {m : List Int} (h : ofConst.ints k l = some m) : l = m.map (Value.int k) := by
  induction l generalizing m with
  | nil => simp [ofConst.ints] at h; subst h; rfl
  | cons v l ih =>
    cases v <;> simp [ofConst.ints] at h
    obtain ⟨rfl, m', h1, rfl⟩ := h
    simp [ih h1]

theorem range_getD (m : List Int) : (List.range m.length).map (fun i => m.getD i 0) = m := by
  apply List.ext_getElem?
  intro j
  by_cases hj : j < m.length
  · simp [hj, List.getD]
  · rw [List.getElem?_eq_none (by simpa using hj), List.getElem?_eq_none (by omega)]

theorem ofConst_spec {ρ : Nat → Nat} {v : Value} {u : VV} (h : ofConst v = some u) : v = u.den ρ ∧ u.mem = true ∧ u.ids = [] := by
  unfold ofConst at h
  split at h <;> first
    | (simp only [Option.some.injEq] at h; subst h; exact ⟨rfl, rfl, rfl⟩)
    | skip
  · rename_i k n l
    obtain ⟨m, h1, rfl⟩ := Option.map_eq_some_iff.1 h
    refine ⟨?_, rfl, rfl⟩
    have := ofConst_ints h1
    simp only [VV.den, VV.den0, VV.cells, VV.cellss, List.append_nil]
    rw [this]
    congr 1
    conv => lhs; rw [← range_getD m]
    simp [List.map_map, Function.comp_def]
  · simp at h

theorem ev_const (ρ : Nat → Nat) (p : Nat → Prop) (L : List (Nat × VV)) (a : Act) (x : Operand) (h : ∀ t, x ≠ .tmp t) : OpOK ρ p L a x := by
  intro u hu
  cases x with
  | tmp t => exact absurd rfl (h t)
  | const v =>
    obtain ⟨h1, h2, h3⟩ := ofConst_spec (ρ := ρ) hu
    exact ⟨h1, okL_of_mem h2, by simp [h3]⟩
  | global g => simp [ev] at hu
  | func f =>
    simp only [ev, Option.some.injEq] at hu
    subst hu
    exact ⟨rfl, rfl, by simp [VV.ids, VV.idss]⟩

section
variable {P : Program} {ty : TypeId → Option TI} (hty : TyAll P ty) {L : List (Nat × VV)} {M : List (Nat × Blk)} {n : Nat} {ρ : Nat → Nat} {p : Nat → Prop} {a : Act} {w : World}

theorem TyOK.sizeOf {t : TypeId} {i : TI} (h : TyOK P t i) (w : World) : (Go.sizeOf t).run P w = .ok i.size w := by
  have := h.info
  cases hq : P.info? t with
  | none => simp [hq] at this
  | some f => simp [hq] at this; simp [Go.sizeOf, typeInfo, hq, this.1]

theorem TyOK.zero {t : TypeId} {i : TI} (h : TyOK P t i) (w : World) : ∃ z, (zeroValue t).run P w = .ok z w ∧ z.cells.toList = VV.cellss id i.zero := by
  have := h.info
  cases hq : P.info? t with
  | none => simp [hq] at this
  | some f =>
    simp [hq] at this
    obtain ⟨_, z, h1, h2⟩ := this
    exact ⟨z, by simp [zeroValue, typeInfo, hq, h1], h2⟩

theorem TyOK.isAgg {t : TypeId} {i : TI} (h : TyOK P t i) (w : World) : (Go.isAgg t).run P w = .ok (isAggD i.desc) w := by
  unfold Go.isAgg
  rw [Sem.run_bind, run_underlying h.desc]
  cases i.desc <;> rfl

theorem zero_any {i : TI} (hi : VV.idss i.zero = []) (ρ ρ' : Nat → Nat) : VV.cellss ρ i.zero = VV.cellss ρ' i.zero := cellss_congr _ (by simp [hi])

/-! memory -/

theorem addr_add (b off n : Nat) : (⟨b, off, none⟩ : Addr).add n = ⟨b, off + n, none⟩ := by
  unfold Addr.add; split <;> simp_all

theorem cell_obj {blk : Blk} {b : Nat} (h : w.heap[b]? = some (obj ρ blk)) (j : Nat) : w.cell? ⟨b, j, none⟩ = (VV.cellss ρ blk.1)[j]? := by
  simp [World.cell?, h, obj]

theorem run_loadVar_agg {t : TypeId} {i : TI} (h : TyOK P t i) (ha : isAggD i.desc = true) {blk : Blk} {b off : Nat} (hb : w.heap[b]? = some (obj ρ blk)) (hs : off + i.size ≤ VV.ws blk.1) :
    (loadVar t ⟨b, off, none⟩).run P w = .ok (.agg (((VV.cellss ρ blk.1).drop off).take i.size).toArray) w := by
  have hl := cellss_length ρ blk.1
  have h1 := run_loadCells_list (P := P) w ⟨b, off, none⟩ (((VV.cellss ρ blk.1).drop off).take i.size) (fun j v hv => by
    rw [addr_add, cell_obj hb]
    rw [List.getElem?_take] at hv
    split at hv
    · rwa [List.getElem?_drop] at hv
    · cases hv)
  have h2 : (((VV.cellss ρ blk.1).drop off).take i.size).length = i.size := by simp; omega
  rw [h2] at h1
  simp only [loadVar, Sem.run_bind, h.isAgg, ha, Result.andThen_ok, if_true, h.sizeOf, h1, Sem.run_pure]

theorem run_loadVar_one {t : TypeId} {i : TI} (h : TyOK P t i) (ha : isAggD i.desc = false) {blk : Blk} {b off : Nat} {v : Value} (hb : w.heap[b]? = some (obj ρ blk)) (hs : (VV.cellss ρ blk.1)[off]? = some v) :
    (loadVar t ⟨b, off, none⟩).run P w = .ok v w := by
  simp only [loadVar, Sem.run_bind, h.isAgg, ha, Result.andThen_ok, Bool.false_eq_true, if_false]
  rw [run_load, cell_obj hb, hs]

theorem splL_cons (cur : List Value) (j : Nat) (v : Value) (rest : List Value) (h : j + 1 + rest.length ≤ cur.length) : splL (cur.set j v) (j + 1) rest = splL cur j (v :: rest) := by
  have e : cur.set j v = cur.take j ++ v :: cur.drop (j + 1) := List.set_eq_take_append_cons_drop.trans (if_pos (by omega))
  have l1 : (cur.take j).length = j := by rw [List.length_take]; omega
  unfold splL
  rw [e, List.take_append, List.drop_append, l1, List.take_of_length_le (l := cur.take j) (by omega), List.drop_of_length_le (l := cur.take j) (by omega), show j + 1 - j = 1 by omega, show j + 1 + rest.length - j = rest.length + 1 by omega]
  simp only [List.take_succ_cons, List.take_zero, List.drop_succ_cons, List.drop_drop, List.nil_append, List.length_cons, List.append_assoc, List.cons_append]
  rw [show j + 1 + rest.length = j + (rest.length + 1) by omega]

theorem run_storeCells (g : Nat) (t : TypeId) : ∀ (vs : List Value) (off i : Nat) (cur : List Value) (w : World), w.heap[g]? = some (.cells cur.toArray t (0, 0)) → off + i + vs.length ≤ cur.length → (∀ v ∈ vs, v.oneCell' = true) →
    (storeCells ⟨g, off, none⟩ vs i).run P w = .ok () (w.setRow g (splL cur (off + i) vs).toArray)
  | [], off, i, cur, w, hg, hl, _ => by
    simp only [storeCells, splL, List.length_nil, Nat.add_zero, List.append_nil, List.take_append_drop]
    show Result.ok () w = _
    congr 1
    have hlt : g < w.heap.size := (Array.getElem?_eq_some_iff.1 hg).1
    have hv : w.heap[g] = .cells cur.toArray t (0, 0) := (Array.getElem?_eq_some_iff.1 hg).2
    unfold World.setRow
    cases w with
    | mk heap tape drawn os output =>
      congr 1
      apply Array.ext
      · simp
      · intro k h1 h2
        simp only [Array.getElem_modify]
        split
        · rename_i hk; subst hk; simp at hv; simp [hv]
        · rfl
  | v :: rest, off, i, cur, w, hg, hl, h1 => by
    have hi : off + i < cur.length := by simp at hl; omega
    have hadd : (⟨g, off, none⟩ : Addr).add i = ⟨g, off + i, none⟩ := addr_add _ _ _
    have hcell : w.cell? ⟨g, off + i, none⟩ = some cur[off + i] := by simp [World.cell?, hg, hi]
    have hfro : w.frozen? ⟨g, off + i, none⟩ = false := by simp [World.frozen?, hg]
    have hst : (store ((⟨g, off, none⟩ : Addr).add i) v).run P w = .ok () (w.setRow g (cur.set (off + i) v).toArray) := by
      rw [hadd, run_store P w _ v _ (h1 v (by simp)), hcell]
      simp only [hfro, Bool.false_eq_true, if_false, setCell_eq_setRow w g (off + i) cur.toArray t (0, 0) v hg]
      congr 2
      simp
    have ih := run_storeCells g t rest off (i + 1) (cur.set (off + i) v) (w.setRow g (cur.set (off + i) v).toArray) (setRow_heap w g cur.toArray _ t _ hg) (by simp at hl ⊢; omega) (fun x hx => h1 x (by simp [hx]))
    simp only [storeCells, Sem.run_bind, hst, Result.andThen_ok, ih, setRow_setRow]
    congr 3
    exact splL_cons cur (off + i) v rest (by simp at hl; omega)

end

end Go.VM
