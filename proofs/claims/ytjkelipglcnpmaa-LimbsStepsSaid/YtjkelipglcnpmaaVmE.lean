/- The machine on virtual values: a part of its definition or of its soundness proof. -/
import Derived.Test.YtjkelipglcnpmaaVmD
namespace Go.VM

section
variable {P : Program} {ty : TypeId → Option TI} {L : List (Nat × VV)} {M : List (Nat × Blk)} {n : Nat} {ρ : Nat → Nat} {p : Nat → Prop} {a : Act} {w : World}

/-- What an operation comes to. -/
def Sound (P : Program) (ρ : Nat → Nat) (p : Nat → Prop) (n : Nat) (a : Act) (w : World) (o : Oper) (v : VV) (me : ME) : Prop :=
  RStep p n v me ∧ ∃ ρ' rv w', RunsTo P o a w rv w' ∧ rv = v.den ρ' ∧ (∀ i, ¬ (n ≤ i ∧ i < n + me.nn) → ρ' i = ρ i) ∧ MStep ρ' n me w w'

/-- An operation that leaves memory alone. -/
theorem Sound.plain {o : Oper} {v : VV} {rv : Value} {rd : List Nat} (hr : (execOp a.eval o).run P w = .ok (.value rv) w) (hv : rv = v.den ρ) (hok : v.okL) (hids : ∀ i ∈ v.ids, p i) (hrd : ∀ b ∈ rd, p b) :
    Sound P ρ p n a w o v { rd := rd } :=
  ⟨⟨hok, fun i hi => .inl (hids i hi), fun _ _ h => by simp [getA] at h, hrd⟩, ρ, rv, w, .inl hr, hv, fun _ _ => rfl, MStep.none _ _ _ _⟩

theorem evs_spec {xs : List Operand} {vs : List VV} (h : evs L xs = some vs) (hop : ∀ x ∈ xs, OpOK ρ p L a x) :
    xs.map a.eval = vs.map (VV.den ρ) ∧ (∀ v ∈ vs, v.okL) ∧ ∀ v ∈ vs, ∀ i ∈ v.ids, p i := by
  induction xs generalizing vs with
  | nil => simp [evs] at h; subst h; simp
  | cons x xs ih =>
    simp only [evs] at h
    obtain ⟨v, h1, h2⟩ := Option.bind_eq_some_iff.1 h
    obtain ⟨vs', h3, h4⟩ := Option.bind_eq_some_iff.1 h2
    simp only [Option.some.injEq] at h4
    subst h4
    obtain ⟨a1, a2, a3⟩ := hop x (by simp) v h1
    obtain ⟨b1, b2, b3⟩ := ih h3 (fun y hy => hop y (by simp [hy]))
    exact ⟨by simp [a1, b1], by simpa using ⟨a2, b2⟩, by simpa using ⟨a3, b3⟩⟩

theorem evParts_spec {xs : List (Nat × Operand)} {vs : List (Nat × VV)} (h : evParts L xs = some vs) (hop : ∀ x ∈ xs, OpOK ρ p L a x.2) :
    xs.map (fun x => (x.1, a.eval x.2)) = vs.map (fun x => (x.1, x.2.den ρ)) ∧ (∀ v ∈ vs, v.2.okL) ∧ ∀ v ∈ vs, ∀ i ∈ v.2.ids, p i := by
  induction xs generalizing vs with
  | nil => simp [evParts] at h; subst h; simp
  | cons x xs ih =>
    obtain ⟨j, x⟩ := x
    simp only [evParts] at h
    obtain ⟨v, h1, h2⟩ := Option.bind_eq_some_iff.1 h
    obtain ⟨vs', h3, h4⟩ := Option.bind_eq_some_iff.1 h2
    simp only [Option.some.injEq] at h4
    subst h4
    obtain ⟨a1, a2, a3⟩ := hop (j, x) (by simp) v h1
    obtain ⟨b1, b2, b3⟩ := ih h3 (fun y hy => hop y (by simp [hy]))
    refine ⟨by simp [a1, b1], fun v hv => ?_, fun v hv => ?_⟩
    · rcases List.mem_cons.1 hv with rfl | h
      · exact a2
      · exact b2 v h
    · rcases List.mem_cons.1 hv with rfl | h
      · exact a3
      · exact b3 v h

theorem frozen_alloc (w : World) (c : Array Value) (t : TypeId) (ad : Addr) : (w.alloc (.cells c t)).frozen? ad = w.frozen? ad := by
  unfold World.frozen?
  rcases Nat.lt_trichotomy ad.block w.heap.size with h | h | h
  · rw [heap_alloc_old _ _ _ h]
  · rw [h, heap_alloc_new, show w.heap[w.heap.size]? = none by simp]; simp
  · have h1 : w.heap[ad.block]? = none := by simp; omega
    have h2 : (w.alloc (.cells c t)).heap[ad.block]? = none := by
      have : (w.alloc (.cells c t)).heap.size = w.heap.size + 1 := by simp
      simp; omega
    rw [h1, h2]

/-- A new block. -/
theorem Sound.alloc {o : Oper} {cells : Array Value} {t : TypeId} {runs : List VV} (hr : (execOp a.eval o).run P w = .ok (.value (.pointer (some ⟨w.heap.size, 0, none⟩))) (w.alloc (.cells cells t)))
    (hc : ∀ ρ' : Nat → Nat, (∀ i, i ≠ n → ρ' i = ρ i) → cells.toList = VV.cellss ρ' runs) (hm : VV.mems runs = true) (hids : ∀ i ∈ VV.idss runs, p i) :
    Sound P ρ p n a w o (.ptr n 0) { up := [(n, (runs, t))], nn := 1 } := by
  have hup : ∀ b blk, getA [(n, ((runs, t) : Blk))] b = some blk → b = n ∧ blk = (runs, t) := by
    intro b blk h
    simp only [getA] at h
    cases hb : Nat.beq n b with
    | true => simp [hb] at h; exact ⟨by have : n = b := by simpa using hb
                                        exact this.symm, h.symm⟩
    | false => simp [hb] at h
  have hself : getA [(n, ((runs, t) : Blk))] n = some (runs, t) := by simp [getA]
  have hold : ∀ i, i ≠ n → (fun i => if i = n then w.heap.size else ρ i) i = ρ i := fun i h => by simp [h]
  refine ⟨⟨rfl, fun i hi => .inr ?_, fun b blk h => ?_, fun b h => by cases h⟩, fun i => if i = n then w.heap.size else ρ i, _, _, .inl hr, ?_, fun i hi => ?_, ⟨rfl, rfl, rfl, by simp, fun b blk h => ?_, fun i hi => ?_, fun i j hi hj _ => ?_, fun k hk _ => ?_, fun ad => frozen_alloc _ _ _ _⟩⟩
  · simp only [VV.ids, List.mem_singleton] at hi; subst hi; simp
  · obtain ⟨rfl, rfl⟩ := hup b blk h
    exact ⟨.inr ⟨Nat.le_refl _, by simp⟩, hm, fun i hi => .inl (hids i hi)⟩
  · simp [VV.den, VV.den0, VV.cells]
  · exact hold i (fun e => hi (by subst e; simp))
  · obtain ⟨rfl, rfl⟩ := hup b blk h
    simp only [if_true, obj]
    rw [← hc _ hold]
    have : (w.alloc (.cells cells t)).heap[w.heap.size]? = some (.cells cells t) := heap_alloc_new _ _
    rw [this]
  · have : i = 0 := by simp at hi; exact hi
    subst this
    simp [hself]
  · simp at hi hj; omega
  · exact heap_alloc_old _ _ _ hk

/-- A block written. -/
theorem Sound.write {o : Oper} {b : Nat} {blk : Blk} {runs : List VV} (hb : getA M b = some blk) (hmm : MmOK ρ p M w b) (hr : (execOp a.eval o).run P w = .ok .skip (w.setRow (ρ b) (VV.cellss ρ runs).toArray))
    (hm : VV.mems runs = true) (hids : ∀ i ∈ VV.idss runs, p i) (hpb : p b) :
    Sound P ρ p n a w o (.tup []) { rd := [b], up := [(b, (runs, blk.2))] } := by
  have hup : ∀ c x, getA [(b, ((runs, blk.2) : Blk))] c = some x → c = b ∧ x = (runs, blk.2) := by
    intro c x h
    simp only [getA] at h
    cases hb : Nat.beq b c with
    | true => simp [hb] at h; exact ⟨by have : b = c := by simpa using hb
                                        exact this.symm, h.symm⟩
    | false => simp [hb] at h
  have hself : getA [(b, ((runs, blk.2) : Blk))] b = some (runs, blk.2) := by simp [getA]
  obtain ⟨h1, _, _⟩ := hmm blk hb
  refine ⟨⟨rfl, by simp [VV.ids, VV.idss], fun c x h => ?_, fun c hc => ?_⟩, ρ, undef, _, .inr ⟨hr, rfl⟩, rfl, fun _ _ => rfl, ⟨rfl, rfl, rfl, by simp, fun c x h => ?_, fun i h => absurd h (Nat.not_lt_zero i), fun i _ h => absurd h (Nat.not_lt_zero i), fun k _ hne => ?_, fun ad => ?_⟩⟩
  · obtain ⟨rfl, rfl⟩ := hup c x h
    exact ⟨.inl (by simp), hm, fun i hi => .inl (hids i hi)⟩
  · simp at hc; subst hc; exact hpb
  · obtain ⟨rfl, rfl⟩ := hup c x h
    exact setRow_heap w _ _ _ _ _ h1
  · exact setRow_other w _ _ _ (fun e => hne b (by simp [hself]) e.symm)
  · unfold World.frozen?
    by_cases hk : ad.block = ρ b
    · rw [hk, setRow_heap w _ _ _ _ _ h1, h1]; rfl
    · rw [setRow_other w _ _ _ hk]

theorem den_of_agg (ρ : Nat → Nat) (l : List VV) : (VV.agg l).den ρ = .agg (VV.cellss ρ l).toArray := rfl

theorem rdAt_spec {i : TI} {t : TypeId} (hti : TyOK P t i) {v u : VV} {b : Nat} (h : rdAt M i v = some (u, b)) (hv : v.okL) (hvi : ∀ j ∈ v.ids, p j) (hmm : MmOK ρ p M w b) :
    ∃ ad, v.den ρ = .pointer (some ad) ∧ (loadVar t ad).run P w = .ok (u.den ρ) w ∧ u.okL ∧ (∀ j ∈ u.ids, p j) ∧ p b := by
  cases v <;> simp only [rdAt, reduceCtorEq] at h
  case ptr c off =>
    obtain ⟨blk, h1, h2⟩ := Option.bind_eq_some_iff.1 h
    obtain ⟨u', h3, h4⟩ := Option.map_eq_some_iff.1 h2
    simp only [Prod.mk.injEq] at h4
    obtain ⟨rfl, rfl⟩ := h4
    obtain ⟨m1, m2, m3⟩ := hmm blk h1
    refine ⟨_, rfl, ?_⟩
    cases hag : isAggD i.desc with
    | true =>
      rw [hag] at h3
      obtain ⟨l, rfl, g1, g2, g3, g4⟩ := loadR_agg (ρ := ρ) h3 m2
      exact ⟨by rw [run_loadVar_agg hti hag m1 g2, den_of_agg, g1], okL_of_mem (by simpa [VV.mem] using g3), fun j hj => m3 j (g4 j (by simpa [VV.ids] using hj)), hvi _ (by simp [VV.ids])⟩
    | false =>
      rw [hag] at h3
      obtain ⟨g1, g2, g3⟩ := loadR_one (ρ := ρ) h3 m2
      exact ⟨run_loadVar_one hti hag m1 g1, okL_of_mem g2, fun j hj => m3 j (g3 j hj), hvi _ (by simp [VV.ids])⟩
  case pel c off m j es =>
    obtain ⟨blk, h1, h2⟩ := Option.bind_eq_some_iff.1 h
    obtain ⟨u', h3, h4⟩ := Option.map_eq_some_iff.1 h2
    simp only [Prod.mk.injEq] at h4
    obtain ⟨rfl, rfl⟩ := h4
    obtain ⟨m1, m2, m3⟩ := hmm blk h1
    obtain ⟨g1, g2, g3, g4⟩ := loadP_spec (ρ := ρ) h3 hv m2
    refine ⟨_, rfl, ?_⟩
    cases hag : isAggD i.desc with
    | true =>
      obtain ⟨l, rfl, g5, g6⟩ := g3 hag
      exact ⟨by rw [run_loadVar_agg hti hag m1 g6, den_of_agg, g5], okL_of_mem g1, fun x hx => m3 x (g2 x hx), hvi _ (by simp [VV.ids])⟩
    | false => exact ⟨run_loadVar_one hti hag m1 (g4 hag), okL_of_mem g1, fun x hx => m3 x (g2 x hx), hvi _ (by simp [VV.ids])⟩

theorem run_storeVar {t : TypeId} {i : TI} (hti : TyOK P t i) {u : VV} (hm : u.mem = true) (hs : u.sto = true) (hsz : u.w = i.size) {blk : Blk} {b off : Nat} (hb : w.heap[b]? = some (obj ρ blk)) (hfit : off + u.w ≤ VV.ws blk.1) :
    (storeVar t ⟨b, off, none⟩ (u.den ρ)).run P w = .ok () (w.setRow b (splL (VV.cellss ρ blk.1) off (u.cells ρ)).toArray) := by
  have hl := cellss_length ρ blk.1
  have hc : (u.den ρ).cells.toList = u.cells ρ := sto_of_mem hm (by intro k n l e; subst e; simp [VV.sto] at hs)
  have hcs : (u.den ρ).cells.size = i.size := by rw [← Array.length_toList, hc, cells_length]; exact hsz
  have := run_storeCells (P := P) b blk.2 (u.cells ρ) off 0 (VV.cellss ρ blk.1) w hb (by rw [cells_length]; omega) (mem_cells u hm)
  simp only [storeVar, Sem.run_bind, hti.sizeOf, Result.andThen_ok, hcs, ne_eq, not_true_eq_false, if_false, hc]
  simpa using this

/-- The operations' laws: numbers. -/
theorem run_binI (op : BinOp) (t : TypeId) (k : IntKind) (x y : Int) (v : VV) (h : binI op k x y = some (true, v)) : (binOp op t (.int k x) (.int k y)).run P w = .ok (v.den ρ) w ∧ v.mem = true ∧ v.ids = [] := by
  cases op <;> simp only [binI, Option.some.injEq, Prod.mk.injEq, decide_eq_true_eq, true_and, reduceCtorEq] at h
  case quo => obtain ⟨h0, rfl⟩ := h; exact ⟨by simp [binOp_quo, Op.intDiv, h0, VV.den, VV.den0, VV.cells], rfl, rfl⟩
  case rem => obtain ⟨h0, rfl⟩ := h; exact ⟨by simp [binOp_rem, Op.intDiv, h0, VV.den, VV.den0, VV.cells], rfl, rfl⟩
  all_goals
    subst h
    exact ⟨by simp [binOp, Op.intArith, Op.intBits, Op.intCmp, bits, VV.den, VV.den0, VV.cells] <;> rfl, rfl, rfl⟩

end
end Go.VM
