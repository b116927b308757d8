/- The machine on virtual values: a part of its definition or of its soundness proof. -/
import Derived.Test.YtjkelipglcnpmaaVmE
namespace Go.VM

section
variable {P : Program} {ty : TypeId → Option TI} {L : List (Nat × VV)} {M : List (Nat × Blk)} {n : Nat} {ρ : Nat → Nat} {p : Nat → Prop} {a : Act} {w : World}

theorem den_of_ptr (ρ : Nat → Nat) (b off : Nat) : (VV.ptr b off).den ρ = .pointer (some ⟨ρ b, off, none⟩) := rfl
theorem den_of_pel (ρ : Nat → Nat) (b off n j es : Nat) : (VV.pel b off n j es).den ρ = .pointer (some ⟨ρ b, off + j * es, none⟩) := rfl

theorem eqR_any {xs ys : List VV} {b : Bool} (h : eqR xs ys = some b) (ρ ρ' : Nat → Nat) : VV.cellss ρ xs = VV.cellss ρ' xs ∧ VV.cellss ρ ys = VV.cellss ρ' ys := by
  induction xs generalizing ys b with
  | nil =>
    unfold eqR at h
    split at h
    · exact ⟨rfl, rfl⟩
    · exact absurd (by assumption : ([] : List VV) = _ :: _) (by simp)
    · cases h
  | cons x xs ih =>
    unfold eqR at h
    split at h
    · exact absurd (by assumption : _ :: _ = ([] : List VV)) (by simp)
    · rename_i k n l xs' k' n' m ys heq
      simp only [List.cons.injEq] at heq
      obtain ⟨rfl, rfl⟩ := heq
      split at h
      · obtain ⟨b', h1, _⟩ := Option.map_eq_some_iff.1 h
        obtain ⟨h2, h3⟩ := ih h1
        simp [VV.cellss, VV.cells, h2, h3]
      · cases h
    · cases h

theorem fillR_spec {off : Nat → Option (Nat × Nat)} {runs runs' : List VV} {ps : List (Nat × VV)} (h : fillR off runs ps = some runs') (hm : VV.mems runs = true) :
    ∀ cs : Array Value, cs.toList = VV.cellss ρ runs → ∃ cs', Instr.fill off cs (ps.map fun q => (q.1, q.2.den ρ)) = some cs' ∧ cs'.toList = VV.cellss ρ runs' ∧ VV.mems runs' = true ∧
      ∀ i ∈ VV.idss runs', i ∈ VV.idss runs ∨ ∃ q ∈ ps, i ∈ q.2.ids := by
  induction ps generalizing runs with
  | nil =>
    intro cs hcs
    simp [fillR] at h
    subst h
    exact ⟨cs, rfl, hcs, hm, fun i hi => .inl hi⟩
  | cons q ps ih =>
    obtain ⟨j, v⟩ := q
    intro cs hcs
    simp only [fillR] at h
    obtain ⟨⟨o, s⟩, h1, h2⟩ := Option.bind_eq_some_iff.1 h
    cases hb : (v.mem && Nat.beq v.w s) with
    | false => simp [hb] at h2
    | true =>
      simp only [hb, cond_true] at h2
      obtain ⟨r1, h3, h4⟩ := Option.bind_eq_some_iff.1 h2
      simp only [Bool.and_eq_true, Nat.beq_eq] at hb
      obtain ⟨g1, g2, g3, g4⟩ := storeR_spec (ρ := ρ) h3 hm hb.1
      have hni : ∀ k m l, v ≠ .ints k m l := by
        rintro k m l rfl
        unfold storeR at h3
        obtain ⟨⟨b, r, i, a⟩, _, h5⟩ := Option.bind_eq_some_iff.1 h3
        cases r <;> simp [VV.one] at h5
      have hc : (v.den ρ).cells.toList = v.cells ρ := sto_of_mem hb.1 hni
      have hcs2 : (v.den ρ).cells.size = s := by rw [← Array.length_toList, hc, cells_length]; exact hb.2
      have hsz : cs.size = VV.ws runs := by rw [← Array.length_toList, hcs, cellss_length]
      -- the loop over a part's cells
      have loop : ∀ (vs : List Value) (c : Array Value) (k : Nat), o + k + vs.length ≤ c.size →
          ((vs.zipIdx k).foldl (fun cs (x : Value × Nat) => cs.setIfInBounds (o + x.2) x.1) c).toList = splL c.toList (o + k) vs := by
        intro vs
        induction vs with
        | nil => intro c k _; simp [splL]
        | cons x vs ih =>
          intro c k hk
          simp only [List.zipIdx_cons, List.foldl_cons]
          rw [ih _ (k + 1) (by simp at hk ⊢; omega), Array.toList_setIfInBounds, ← splL_cons c.toList (o + k) x vs (by simp at hk ⊢; omega)]
          rfl
      have hfill : Instr.fill off cs (((j, v) :: ps).map fun q => (q.1, q.2.den ρ)) =
          Instr.fill off ((v.den ρ).cells.zipIdx.foldl (fun cs (x : Value × Nat) => cs.setIfInBounds (o + x.2) x.1) cs) (ps.map fun q => (q.1, q.2.den ρ)) := by
        simp only [List.map_cons, Instr.fill, h1, hcs2]
        have : ¬ o + s > cs.size := by omega
        simp [this]
      have hl := loop (v.cells ρ) cs 0 (by rw [cells_length]; omega)
      have hc' : ((v.den ρ).cells.zipIdx.foldl (fun cs (x : Value × Nat) => cs.setIfInBounds (o + x.2) x.1) cs).toList = VV.cellss ρ r1 := by
        rw [Nat.add_zero] at hl
        rw [g1, ← hcs, ← hl, ← hc, ← Array.foldl_toList, Array.toList_zipIdx]
      obtain ⟨cs', k1, k2, k3, k4⟩ := ih h4 g3 _ hc'
      refine ⟨cs', by rw [hfill]; exact k1, k2, k3, fun i hi => ?_⟩
      rcases k4 i hi with hx | ⟨q, hq, hx⟩
      · rcases g4 i hx with hy | hy
        · exact .inl hy
        · exact .inr ⟨(j, v), by simp, hy⟩
      · exact .inr ⟨q, by simp [hq], hx⟩

theorem okL_mem_of_not {v : VV} (h : v.okL) (h1 : ∀ b off n j es, v ≠ .pel b off n j es) (h2 : ∀ l, v ≠ .tup l) : v.mem = true := by
  cases v <;> first | exact h | exact absurd rfl (h1 _ _ _ _ _) | exact absurd rfl (h2 _)

theorem cellss_runsOf (v : VV) : VV.cellss ρ (runsOf v) = v.cells ρ := by
  cases v <;> simp [runsOf, VV.cellss, VV.cells]

theorem mems_runsOf {v : VV} (h : v.mem = true) : VV.mems (runsOf v) = true := by
  cases v <;> simp_all [runsOf, VV.mems, VV.mem]

theorem ids_runsOf (v : VV) : VV.idss (runsOf v) = v.ids := by
  cases v <;> simp [runsOf, VV.idss, VV.ids]

theorem run_bin (hty : TyAll P ty) {op : BinOp} {t : TypeId} {x y : VV} {v : VV} (X Y : Operand) (h : bin ty op t x y = some (true, v)) :
    (do eqGuard op t X Y (x.den ρ) (y.den ρ); binOp op t (x.den ρ) (y.den ρ) : Sem Value).run P w = .ok (v.den ρ) w ∧ v.mem = true ∧ v.ids = [] := by
  unfold bin at h
  split at h
  · rename_i k x k' y
    have hg : eqGuard op t X Y (VV.den ρ (.int k x)) (VV.den ρ (.int k' y)) = pure () := eqGuard_at_int _ _ _ _ _ _ _
    split at h
    · simp only [Option.some.injEq, Prod.mk.injEq, decide_eq_true_eq] at h
      obtain ⟨h0, rfl⟩ := h
      refine ⟨?_, rfl, rfl⟩
      simp [eqGuard, VV.den, VV.den0, VV.cells, binOp, Op.shift, shiftI, show ¬ y < 0 by omega]
    · simp only [Option.some.injEq, Prod.mk.injEq, decide_eq_true_eq] at h
      obtain ⟨h0, rfl⟩ := h
      refine ⟨?_, rfl, rfl⟩
      simp [eqGuard, VV.den, VV.den0, VV.cells, binOp, Op.shift, shiftI, show ¬ y < 0 by omega]
    · split at h
      · rename_i hk
        subst hk
        obtain ⟨h1, h2, h3⟩ := run_binI (P := P) (w := w) (ρ := ρ) op t k x y v h
        refine ⟨?_, h2, h3⟩
        simp only [hg, Sem.run_bind, Sem.run_pure, Result.andThen_ok]
        exact h1
      · simp at h
  · rename_i x y
    have hg : eqGuard op t X Y (VV.den ρ (.bool x)) (VV.den ρ (.bool y)) = pure () := eqGuard_at_bool _ _ _ _ _ _
    obtain ⟨i, h1, h2⟩ := Option.bind_eq_some_iff.1 h
    have hd := (hty t i h1).desc
    split at h2
    · rename_i hb
      rw [hb] at hd
      simp only [Option.some.injEq, Prod.mk.injEq, true_and] at h2
      subst h2
      refine ⟨?_, rfl, rfl⟩
      simp only [hg, Sem.run_bind, Sem.run_pure, Result.andThen_ok]
      exact run_eql_bool w t x y hd
    · rename_i hb
      rw [hb] at hd
      simp only [Option.some.injEq, Prod.mk.injEq, true_and] at h2
      subst h2
      refine ⟨?_, rfl, rfl⟩
      simp only [hg, Sem.run_bind, Sem.run_pure, Result.andThen_ok]
      exact run_neq_bool w t x y hd
    · simp at h2
  · rename_i xs ys
    obtain ⟨i, h1, h2⟩ := Option.bind_eq_some_iff.1 h
    cases hb : (i.plainEq && Nat.beq i.size (VV.ws xs)) with
    | false => simp [hb] at h2
    | true =>
      simp only [hb, cond_true] at h2
      simp only [Bool.and_eq_true, Nat.beq_eq] at hb
      obtain ⟨b, h3, h4⟩ := Option.bind_eq_some_iff.1 h2
      obtain ⟨e1, e2⟩ := eqR_any h3 ρ id
      obtain ⟨q1, q2⟩ := (hty t i h1).eqs hb.1 w xs ys b hb.2.symm h3
      have hg : (eqGuard op t X Y (VV.den ρ (.agg xs)) (VV.den ρ (.agg ys))).run P w = .ok () w := run_eqGuard_agg _ _ _ _ _ _ _ q2
      simp only [Sem.run_bind, hg, Result.andThen_ok]
      rw [den_of_agg, den_of_agg, e1, e2]
      split at h4 <;> simp only [Option.some.injEq, Prod.mk.injEq, true_and, reduceCtorEq] at h4
      · subst h4
        exact ⟨by simp only [binOp, Sem.run_bind, q1, Result.andThen_ok, Sem.run_pure]; rfl, rfl, rfl⟩
      · subst h4
        exact ⟨by simp only [binOp, Sem.run_bind, q1, Result.andThen_ok, Sem.run_pure]; rfl, rfl, rfl⟩
  · simp at h

theorem xop_sound (hty : TyAll P ty) {o : Oper} {v : VV} {me : ME} (h : xop ty L M n o.op = some (true, v, me))
    (hop : ∀ x ∈ o.op.operands.toList, OpOK ρ p L a x) (hmm : ∀ b ∈ me.rd, MmOK ρ p M w b) (hpn : ∀ i, p i → ¬ (n ≤ i ∧ i < n + me.nn)) : Sound P ρ p n a w o v me := by
  obtain ⟨dst, op, type, pos, after, guard⟩ := o
  cases op
  case move x =>
    simp only [xop] at h
    obtain ⟨u, h1, h2⟩ := Option.map_eq_some_iff.1 h
    simp only [Prod.mk.injEq, true_and] at h2
    obtain ⟨rfl, rfl⟩ := h2
    obtain ⟨a1, a2, a3⟩ := hop x (by simp [Op.operands]) u h1
    exact Sound.plain (rv := a.eval x) rfl a1 a2 a3 (by simp)
  case assign x =>
    simp only [xop] at h
    obtain ⟨u, h1, h2⟩ := Option.map_eq_some_iff.1 h
    simp only [Prod.mk.injEq, true_and] at h2
    obtain ⟨rfl, rfl⟩ := h2
    obtain ⟨a1, a2, a3⟩ := hop x (by simp [Op.operands]) u h1
    exact Sound.plain (rv := a.eval x) rfl a1 a2 a3 (by simp)
  case pick c x y =>
    simp only [xop] at h
    obtain ⟨u, h1, h2⟩ := Option.bind_eq_some_iff.1 h
    obtain ⟨a1, a2, a3⟩ := hop c (by simp [Op.operands]) u h1
    cases u <;> simp only [reduceCtorEq] at h2
    rename_i t
    obtain ⟨u', h3, h4⟩ := Option.map_eq_some_iff.1 h2
    simp only [Prod.mk.injEq, true_and] at h4
    obtain ⟨rfl, rfl⟩ := h4
    have hc : a.eval c = .bool t := a1
    cases t with
    | true =>
      obtain ⟨b1, b2, b3⟩ := hop x (by simp [Op.operands]) u' h3
      exact Sound.plain (rv := a.eval x) (by simp [execOp, hc, asBool]) b1 b2 b3 (by simp)
    | false =>
      obtain ⟨b1, b2, b3⟩ := hop y (by simp [Op.operands]) u' h3
      exact Sound.plain (rv := a.eval y) (by simp [execOp, hc, asBool]) b1 b2 b3 (by simp)
  case alloc t =>
    simp only [xop] at h
    obtain ⟨i, h1, h2⟩ := Option.map_eq_some_iff.1 h
    simp only [Prod.mk.injEq, true_and] at h2
    obtain ⟨rfl, rfl⟩ := h2
    have hti := hty t i h1
    obtain ⟨z, hz, hzc⟩ := hti.zero w
    refine Sound.alloc (cells := z.cells) ?_ (fun ρ' _ => by rw [hzc, zero_any hti.ids]) hti.mem (by simp [hti.ids])
    simp [execOp, Instr.alloc, hz, newVar, newRow]
  case box t x =>
    simp only [xop] at h
    obtain ⟨u, h1, h2⟩ := Option.bind_eq_some_iff.1 h
    obtain ⟨a1, a2, a3⟩ := hop x (by simp [Op.operands]) u h1
    cases hb : (u.mem && u.sto) with
    | false => simp [hb] at h2
    | true =>
      simp only [hb, cond_true, Option.some.injEq, Prod.mk.injEq, true_and] at h2
      obtain ⟨rfl, rfl⟩ := h2
      simp only [Bool.and_eq_true] at hb
      refine Sound.alloc (cells := (a.eval x).cells) ?_ (fun ρ' hρ => ?_) (mems_runsOf hb.1) (by rw [ids_runsOf]; exact a3)
      · simp [execOp, Instr.box, newVar, newRow]
      · rw [a1, cellss_runsOf, sto_of_mem hb.1 (by intro k n l e; subst e; simp [VV.sto] at hb)]
        exact cells_congr u fun i hi => (hρ i (fun e => hpn i (a3 i hi) (by subst e; simp))).symm
  case build t parts =>
    simp only [xop] at h
    obtain ⟨i, h1, h2⟩ := Option.bind_eq_some_iff.1 h
    obtain ⟨ps, h3, h4⟩ := Option.bind_eq_some_iff.1 h2
    have hti := hty t i h1
    obtain ⟨e1, e2, e3⟩ := evParts_spec (ρ := ρ) (p := p) h3 (fun x hx => hop x.2 (by simp [Op.operands]; exact ⟨x.1, by simpa using hx⟩))
    have hparts : (parts.map fun x => (x.1, a.eval x.2)).toList = ps.map fun q => (q.1, q.2.den ρ) := by rw [← e1]; simp
    have hinf := hti.info
    have hdd := hti.desc
    cases hq : P.info? t with
    | none => simp [hq] at hinf
    | some it =>
    simp [hq] at hinf
    obtain ⟨_, z', hz1, hz2⟩ := hinf
    have fin : ∀ (off : Nat → Option (Nat × Nat)) runs, fillR off i.zero ps = some runs →
        Instr.fill off z'.cells (parts.map fun x => (x.1, a.eval x.2)).toList = some (VV.cellss ρ runs).toArray ∧ VV.mems runs = true ∧ ∀ i ∈ VV.idss runs, p i := by
      intro off runs hf
      obtain ⟨cs', g1, g2, g3, g4⟩ := fillR_spec (ρ := ρ) hf hti.mem z'.cells (by rw [hz2, zero_any hti.ids])
      refine ⟨by rw [hparts, g1, ← g2], g3, fun i hi => ?_⟩
      rcases g4 i hi with hx | ⟨q, hq, hx⟩
      · rw [hti.ids] at hx; cases hx
      · exact e3 q hq i hx
    have done' : ∀ runs, P.built t (parts.map fun x => (x.1, a.eval x.2)).toList = some (VV.cellss ρ runs).toArray → VV.mems runs = true → (∀ i ∈ VV.idss runs, p i) → Sound P ρ p n a w ⟨dst, .build t parts, type, pos, after, guard⟩ (.agg runs) {} := by
      intro runs hb g3 g4
      refine Sound.plain (rv := .agg (VV.cellss ρ runs).toArray) ?_ rfl (okL_of_mem (by simpa [VV.mem] using g3)) (by simpa [VV.ids] using g4) (by simp)
      have := run_build (P := P) w t _ _ hb
      simp only [execOp, Sem.run_bind]
      rw [show (Instr.build t (parts.map fun x => match x with | (i, x) => (i, a.eval x))) = Instr.build t (parts.map fun x => (x.1, a.eval x.2)) from rfl, this]
      rfl
    split at h4
    · rename_i fs hd
      obtain ⟨runs, h5, h6⟩ := Option.map_eq_some_iff.1 h4
      simp only [Prod.mk.injEq, true_and] at h6
      obtain ⟨rfl, rfl⟩ := h6
      have hf := hti.fsz
      rw [hd] at hf hdd
      simp only at hf
      have hpl : (fs.toList.mapM fun f => (P.info? f.type).map fun i => (f.offset, i.size)) = some (fs.toList.zipWith (fun (f : Field) s => (f.offset, s)) i.fsz) := by
        generalize fs.toList = l at hf
        generalize i.fsz = m at hf
        clear h4 h5 fin hd hdd
        induction l generalizing m with
        | nil => cases m <;> simp at hf; rfl
        | cons f l ih =>
          cases m with
          | nil => simp at hf
          | cons s m =>
            simp only [List.map_cons, List.cons.injEq] at hf
            obtain ⟨x1, x2⟩ := hf
            cases hq : P.info? f.type with
            | none => simp [hq] at x1
            | some q =>
              simp [hq] at x1
              simp [hq, ih m x2, x1]
      have hoff : (fun (j : Nat) => (fs[j]?).bind fun (f : Field) => (i.fsz[j]?).map fun s => (f.offset, s)) = fun j => (fs.toList.zipWith (fun (f : Field) s => (f.offset, s)) i.fsz).toArray[j]? := by
        funext j
        simp only [List.getElem?_toArray, List.getElem?_zipWith, Array.getElem?_toList]
        cases fs[j]? <;> cases i.fsz[j]? <;> rfl
      rw [hoff] at h5
      obtain ⟨g1, g3, g4⟩ := fin _ _ h5
      refine done' runs ?_ g3 g4
      simp only [Program.built, hq, hdd, hz1, hpl]
      exact g1
    · rename_i m e hd
      obtain ⟨runs, h5, h6⟩ := Option.map_eq_some_iff.1 h4
      simp only [Prod.mk.injEq, true_and] at h6
      obtain ⟨rfl, rfl⟩ := h6
      have hf := hti.esz
      rw [hd] at hf hdd
      simp only at hf
      obtain ⟨g1, g3, g4⟩ := fin _ _ h5
      refine done' runs ?_ g3 g4
      cases hie : P.info? e with
      | none => simp [hie] at hf
      | some ie =>
        simp [hie] at hf
        simp only [Program.built, hq, hdd, hz1, hie, hf]
        exact g1
    · simp at h4
  case load t x =>
    simp only [xop] at h
    obtain ⟨u, h1, h2⟩ := Option.bind_eq_some_iff.1 h
    obtain ⟨i, h3, h4⟩ := Option.bind_eq_some_iff.1 h2
    obtain ⟨⟨r, b⟩, h5, h6⟩ := Option.map_eq_some_iff.1 h4
    simp only [Prod.mk.injEq, true_and] at h6
    obtain ⟨rfl, rfl⟩ := h6
    obtain ⟨a1, a2, a3⟩ := hop x (by simp [Op.operands]) u h1
    obtain ⟨ad, g1, g2, g3, g4, g5⟩ := rdAt_spec (hty t i h3) h5 a2 a3 (hmm b (by simp))
    refine Sound.plain (rv := r.den ρ) ?_ rfl g3 g4 (by simpa using g5)
    simp only [execOp, Instr.loadAt, a1, g1, Instr.sureAddr, Sem.run_bind, Sem.run_pure, Result.andThen_ok, g2]
  case store t x y =>
    simp only [xop] at h
    obtain ⟨v1, h1, h2⟩ := Option.bind_eq_some_iff.1 h
    obtain ⟨u, h3, h4⟩ := Option.bind_eq_some_iff.1 h2
    obtain ⟨i, h5, h6⟩ := Option.bind_eq_some_iff.1 h4
    obtain ⟨a1, a2, a3⟩ := hop x (by simp [Op.operands]) v1 h1
    obtain ⟨b1, b2, b3⟩ := hop y (by simp [Op.operands]) u h3
    cases hb : (u.mem && u.sto && Nat.beq u.w i.size) with
    | false => simp [hb] at h6
    | true =>
      simp only [hb, cond_true] at h6
      simp only [Bool.and_eq_true, Nat.beq_eq] at hb
      obtain ⟨⟨q1, q2⟩, q3⟩ := hb
      cases v1 <;> simp only [reduceCtorEq] at h6
      case ptr b off =>
        obtain ⟨blk, h7, h8⟩ := Option.bind_eq_some_iff.1 h6
        obtain ⟨runs, h9, h10⟩ := Option.map_eq_some_iff.1 h8
        simp only [Prod.mk.injEq, true_and] at h10
        obtain ⟨rfl, rfl⟩ := h10
        have hm := hmm b (by simp)
        obtain ⟨m1, m2, m3⟩ := hm blk h7
        obtain ⟨g1, g2, g3, g4⟩ := storeR_spec (ρ := ρ) h9 m2 q1
        refine Sound.write h7 hm ?_ g3 (fun j hj => (g4 j hj).elim (m3 j) (b3 j)) (a3 b (by simp [VV.ids]))
        have hs := run_storeVar (P := P) (w := w) (hty t i h5) q1 q2 q3 m1 g2
        simp only [execOp, Instr.storeAt, a1, b1, den_of_ptr, Instr.sureAddr, Sem.run_bind, Sem.run_pure, Result.andThen_ok]
        rw [hs, g1]
        rfl
      case pel b off m j es =>
        obtain ⟨blk, h7, h8⟩ := Option.bind_eq_some_iff.1 h6
        obtain ⟨runs, h9, h10⟩ := Option.map_eq_some_iff.1 h8
        simp only [Prod.mk.injEq, true_and] at h10
        obtain ⟨rfl, rfl⟩ := h10
        have hm := hmm b (by simp)
        obtain ⟨m1, m2, m3⟩ := hm blk h7
        obtain ⟨g1, g2, g3, g4⟩ := storeP_spec (ρ := ρ) h9 m2 a2 q1
        refine Sound.write h7 hm ?_ g3 (fun j hj => (g4 j hj).elim (m3 j) (b3 j)) (a3 b (by simp [VV.ids]))
        have hs := run_storeVar (P := P) (w := w) (hty t i h5) q1 q2 q3 m1 g2
        simp only [execOp, Instr.storeAt, a1, b1, den_of_pel, Instr.sureAddr, Sem.run_bind, Sem.run_pure, Result.andThen_ok]
        rw [hs, g1]
        rfl
  case nilCheck x =>
    simp only [xop] at h
    obtain ⟨u, h1, h2⟩ := Option.bind_eq_some_iff.1 h
    obtain ⟨a1, a2, a3⟩ := hop x (by simp [Op.operands]) u h1
    cases u <;> simp only [reduceCtorEq, Option.some.injEq, Prod.mk.injEq, true_and] at h2
    all_goals
      obtain ⟨rfl, rfl⟩ := h2
      exact Sound.plain (rv := a.eval x) (by simp only [execOp, a1, VV.den, VV.den0, VV.cells, List.headD_cons]; rfl) a1 a2 a3 (by simp)
  case binOp op t x y yt =>
    simp only [xop] at h
    obtain ⟨v1, h1, h2⟩ := Option.bind_eq_some_iff.1 h
    obtain ⟨v2, h3, h4⟩ := Option.bind_eq_some_iff.1 h2
    obtain ⟨⟨c, u⟩, h5, h6⟩ := Option.map_eq_some_iff.1 h4
    simp only [Prod.mk.injEq] at h6
    obtain ⟨rfl, rfl, rfl⟩ := h6
    obtain ⟨a1, a2, a3⟩ := hop x (by simp [Op.operands]) v1 h1
    obtain ⟨b1, b2, b3⟩ := hop y (by simp [Op.operands]) v2 h3
    obtain ⟨g1, g2, g3⟩ := run_bin (P := P) (w := w) (ρ := ρ) hty x y h5
    refine Sound.plain (rv := u.den ρ) ?_ rfl (okL_of_mem g2) (by simp [g3]) (by simp)
    simp only [execOp, a1, b1]
    rw [Sem.run_bind, g1]
    rfl
  case unOp op t x =>
    simp only [xop] at h
    obtain ⟨v1, h1, h2⟩ := Option.bind_eq_some_iff.1 h
    obtain ⟨u, h3, h4⟩ := Option.map_eq_some_iff.1 h2
    simp only [Prod.mk.injEq, true_and] at h4
    obtain ⟨rfl, rfl⟩ := h4
    obtain ⟨a1, a2, a3⟩ := hop x (by simp [Op.operands]) v1 h1
    unfold un at h3
    split at h3
    · split at h3 <;> simp only [Option.some.injEq, reduceCtorEq] at h3
      all_goals
        subst h3
        exact Sound.plain (rv := _) (by simp only [execOp, a1, VV.den, VV.den0, VV.cells, List.headD_cons, Op.unary, Op.intArith, Op.intBits]; rfl) rfl rfl (by simp [VV.ids]) (by simp)
    · split at h3 <;> simp only [Option.some.injEq, reduceCtorEq] at h3
      subst h3
      exact Sound.plain (rv := _) (by simp only [execOp, a1, VV.den, VV.den0, VV.cells, List.headD_cons, Op.unary]; rfl) rfl rfl (by simp [VV.ids]) (by simp)
    · cases h3
  case convert s d x =>
    simp only [xop] at h
    obtain ⟨v1, h1, h2⟩ := Option.bind_eq_some_iff.1 h
    obtain ⟨is, h3, h4⟩ := Option.bind_eq_some_iff.1 h2
    obtain ⟨i, h5, h6⟩ := Option.bind_eq_some_iff.1 h4
    obtain ⟨a1, a2, a3⟩ := hop x (by simp [Op.operands]) v1 h1
    split at h6
    · rename_i k' m k hd
      simp only [Option.some.injEq, Prod.mk.injEq, true_and] at h6
      obtain ⟨rfl, rfl⟩ := h6
      have hdd := (hty d i h5).desc
      rw [hd] at hdd
      have hss := (hty s is h3).desc
      refine Sound.plain (rv := .int k (k.wrap m)) ?_ rfl rfl (by simp [VV.ids]) (by simp)
      simp only [execOp, a1, VV.den, VV.den0, VV.cells, List.headD_cons, convert, Sem.run_bind, run_underlying hss, run_underlying hdd, Result.andThen_ok, Conv.intToInt]
      cases is.desc <;> rfl
    · cases h6
  case makeFunc fn first caps =>
    cases fn <;> simp only [xop, reduceCtorEq] at h
    rename_i f
    cases hb : first.isEmpty with
    | false => simp [hb] at h
    | true =>
      simp only [hb, cond_true] at h
      obtain ⟨vs, h1, h2⟩ := Option.bind_eq_some_iff.1 h
      cases hm : VV.mems vs with
      | false => simp [hm] at h2
      | true =>
        simp only [hm, cond_true, Option.some.injEq, Prod.mk.injEq, true_and] at h2
        obtain ⟨rfl, rfl⟩ := h2
        obtain ⟨e1, e2, e3⟩ := evs_spec (ρ := ρ) (p := p) h1 (fun x hx => hop x (by simp [Op.operands]; exact .inr (by simpa using hx)))
        have hf : first = #[] := by simpa using hb
        subst hf
        refine Sound.plain (rv := .func (.func f) #[] (caps.map a.eval)) (by simp [execOp, Instr.makeFunc]) ?_ hm (fun i hi => ?_) (by simp)
        · have : (caps.map a.eval).toList = VV.caps ρ vs := by
            rw [Array.toList_map, e1, caps_eq]
            refine List.map_congr_left fun v hv => ?_
            have := mems_iff.1 hm v hv
            cases v <;> first | rfl | (simp [VV.mem] at this)
          simp only [VV.den, VV.den0, VV.cells, List.headD_cons]
          rw [← this]
        · simp only [VV.ids, mem_idss] at hi
          obtain ⟨v, hv, hi⟩ := hi
          exact e3 v hv i hi
  case fieldAddr t x j =>
    simp only [xop] at h
    obtain ⟨v1, h1, h2⟩ := Option.bind_eq_some_iff.1 h
    obtain ⟨i, h3, h4⟩ := Option.bind_eq_some_iff.1 h2
    obtain ⟨a1, a2, a3⟩ := hop x (by simp [Op.operands]) v1 h1
    have hti := hty t i h3
    have hdd := hti.desc
    have hff := hti.fsz
    split at h4
    · rename_i fs b off hd
      rw [hd] at hdd hff
      simp only at hff
      obtain ⟨f, h5, h6⟩ := Option.bind_eq_some_iff.1 h4
      obtain ⟨s, h7, h8⟩ := Option.bind_eq_some_iff.1 h6
      cases hs : Nat.beq s 0 with
      | true => simp [hs] at h8
      | false =>
        simp only [hs, cond_false, Option.some.injEq, Prod.mk.injEq, true_and] at h8
        obtain ⟨rfl, rfl⟩ := h8
        have hs0 : ¬ s = 0 := by rw [← Nat.beq_eq, hs]; simp
        have hsz : (P.info? f.type).map (·.size) = some s := by
          have e1 : (fs.toList.map fun f => (P.info? f.type).map (·.size))[j]? = some ((P.info? f.type).map (·.size)) := by simp [h5]
          rw [hff] at e1
          simpa [h7] using e1.symm
        have hsz' : (sizeOf f.type).run P w = .ok s w := by
          cases hq : P.info? f.type with
          | none => simp [hq] at hsz
          | some q => simp [hq] at hsz; simp [sizeOf, typeInfo, hq, hsz]
        refine Sound.plain (rv := .pointer (some ⟨ρ b, off + f.offset, none⟩)) ?_ rfl rfl (by simpa [VV.ids] using a3) (by simp)
        simp only [execOp, a1, VV.den, VV.den0, VV.cells, List.headD_cons, Instr.fieldAt, Sem.run_bind, run_underlying hdd, Result.andThen_ok, h5, Instr.sureAddr, Sem.run_pure, fieldPlace, hsz', hs0, if_false, addr_add]
    · cases h4
  case field t x j =>
    simp only [xop] at h
    obtain ⟨v1, h1, h2⟩ := Option.bind_eq_some_iff.1 h
    obtain ⟨i, h3, h4⟩ := Option.bind_eq_some_iff.1 h2
    obtain ⟨a1, a2, a3⟩ := hop x (by simp [Op.operands]) v1 h1
    have hti := hty t i h3
    have hdd := hti.desc
    split at h4
    · rename_i fs runs hd
      rw [hd] at hdd
      obtain ⟨f, h5, h6⟩ := Option.bind_eq_some_iff.1 h4
      obtain ⟨e, h7, h8⟩ := Option.bind_eq_some_iff.1 h6
      obtain ⟨u, h9, h10⟩ := Option.map_eq_some_iff.1 h8
      simp only [Prod.mk.injEq, true_and] at h10
      obtain ⟨rfl, rfl⟩ := h10
      have hte := hty f.type e h7
      have hm : VV.mems runs = true := by simpa [VV.okL, VV.mem] using a2
      cases hag : isAggD e.desc with
      | true =>
        rw [hag] at h9
        obtain ⟨l, rfl, g1, g2, g3, g4⟩ := loadR_agg (ρ := ρ) h9 hm
        refine Sound.plain (rv := (VV.agg l).den ρ) ?_ rfl (okL_of_mem (by simpa [VV.mem] using g3)) (fun j hj => a3 j (by simp only [VV.ids] at hj ⊢; exact g4 j hj)) (by simp)
        simp only [execOp, a1, den_of_agg, Instr.field, Sem.run_bind, run_underlying hdd, Result.andThen_ok, h5, asAgg, Sem.run_pure, part, hte.isAgg, hag, if_true, hte.sizeOf]
        rw [g1]
        congr 3
        apply Array.ext'
        simp [List.extract_eq_take_drop]
      | false =>
        rw [hag] at h9
        obtain ⟨g1, g2, g3⟩ := loadR_one (ρ := ρ) h9 hm
        refine Sound.plain (rv := u.den ρ) ?_ rfl (okL_of_mem g2) (fun j hj => a3 j (by simp only [VV.ids]; exact g3 j hj)) (by simp)
        simp only [execOp, a1, den_of_agg, Instr.field, Sem.run_bind, run_underlying hdd, Result.andThen_ok, h5, asAgg, Sem.run_pure, part, hte.isAgg, hag, Bool.false_eq_true, if_false]
        rw [List.getElem?_toArray, g1]
        rfl
    · cases h4
  case indexAddr t x y =>
    simp only [xop] at h
    obtain ⟨v1, h1, h2⟩ := Option.bind_eq_some_iff.1 h
    obtain ⟨u, h3, h4⟩ := Option.bind_eq_some_iff.1 h2
    obtain ⟨i, h5, h6⟩ := Option.bind_eq_some_iff.1 h4
    obtain ⟨a1, a2, a3⟩ := hop x (by simp [Op.operands]) v1 h1
    obtain ⟨b1, b2, b3⟩ := hop y (by simp [Op.operands]) u h3
    have hti := hty t i h5
    have hdd := hti.desc
    have hes := hti.esz
    have run : ∀ m e k j ad, i.desc = .array m e → (0 ≤ j ∧ j < (m : Int)) → (Instr.indexAt t (.pointer (some ad)) (.int k j)).run P w = .ok (.pointer (some (ad.add (j.toNat * i.esz)))) w := by
      intro m e k j ad hd hj
      rw [hd] at hdd hes
      simp only at hes
      have hsz : (sizeOf e).run P w = .ok i.esz w := by
        cases hq : P.info? e with
        | none => simp [hq] at hes
        | some q => simp [hq] at hes; simp [sizeOf, typeInfo, hq, hes]
      simp [Instr.indexAt, asIntOf, run_underlying hdd, Instr.sureAddr, hj, hsz]
    split at h6
    · rename_i m e b off k j hd
      simp only [Option.some.injEq, Prod.mk.injEq, decide_eq_true_eq] at h6
      obtain ⟨hj, rfl, rfl⟩ := h6
      refine Sound.plain (rv := .pointer (some ⟨ρ b, off + j.toNat * i.esz, none⟩)) ?_ rfl (by show j.toNat < m; omega) (by simpa [VV.ids] using a3) (by simp)
      have := run m e k j ⟨ρ b, off, none⟩ hd hj
      simp only [execOp, a1, b1, VV.den, VV.den0, VV.cells, List.headD_cons, Sem.run_bind, this, addr_add]
      rfl
    · rename_i m e b off m' j' es k j hd
      cases hb : Nat.beq es (m * i.esz) with
      | false => simp [hb] at h6
      | true =>
        simp only [hb, cond_true, Option.some.injEq, Prod.mk.injEq, decide_eq_true_eq] at h6
        obtain ⟨hj, rfl, rfl⟩ := h6
        have hes' : es = m * i.esz := by simpa using hb
        refine Sound.plain (rv := .pointer (some ⟨ρ b, off + (j' * m + j.toNat) * i.esz, none⟩)) ?_ rfl ?_ (by simpa [VV.ids] using a3) (by simp)
        · subst hes'
          have := run m e k j ⟨ρ b, off + j' * (m * i.esz), none⟩ hd hj
          simp only [execOp, a1, b1, VV.den, VV.den0, VV.cells, List.headD_cons, Sem.run_bind, this, addr_add, Result.andThen_ok, Sem.run_pure]
          rw [show off + j' * (m * i.esz) + j.toNat * i.esz = off + (j' * m + j.toNat) * i.esz by rw [Nat.add_mul, Nat.mul_assoc, Nat.add_assoc]]
        · have h1 : (j' + 1) * m ≤ m' * m := Nat.mul_le_mul_right _ a2
          rw [Nat.add_mul] at h1
          show j' * m + j.toNat < m' * m
          omega
    · cases h6
  case index t x y =>
    simp only [xop] at h
    obtain ⟨v1, h1, h2⟩ := Option.bind_eq_some_iff.1 h
    obtain ⟨u, h3, h4⟩ := Option.bind_eq_some_iff.1 h2
    obtain ⟨i, h5, h6⟩ := Option.bind_eq_some_iff.1 h4
    obtain ⟨a1, a2, a3⟩ := hop x (by simp [Op.operands]) v1 h1
    obtain ⟨b1, b2, b3⟩ := hop y (by simp [Op.operands]) u h3
    have hti := hty t i h5
    have hdd := hti.desc
    have hes := hti.esz
    split at h6
    · rename_i m e runs k j hd
      rw [hd] at hdd
      obtain ⟨ei, h7, h8⟩ := Option.bind_eq_some_iff.1 h6
      obtain ⟨r, h9, h10⟩ := Option.map_eq_some_iff.1 h8
      simp only [Prod.mk.injEq, decide_eq_true_eq] at h10
      obtain ⟨hj, rfl, rfl⟩ := h10
      have hte := hty e ei h7
      have hm : VV.mems runs = true := by simpa [VV.okL, VV.mem] using a2
      obtain ⟨g1, g2, g3, g4⟩ := loadP_spec (ρ := ρ) h9 (by omega) hm
      refine Sound.plain (rv := r.den ρ) ?_ rfl (okL_of_mem g1) (fun q hq => a3 q (by simp only [VV.ids]; exact g2 q hq)) (by simp)
      have hk : (asIntOf (VV.den ρ (.int k j))).run P w = .ok (k, j) w := rfl
      cases hag : isAggD ei.desc with
      | true =>
        obtain ⟨l, rfl, g5, g6⟩ := g3 hag
        simp only [execOp, a1, b1, den_of_agg, Instr.index, Sem.run_bind, hk, Result.andThen_ok, run_underlying hdd, hj, and_self, if_true, hte.sizeOf, part, hte.isAgg, hag, Sem.run_pure]
        rw [g5]
        congr 3
        apply Array.ext'
        simp [List.extract_eq_take_drop]
      | false =>
        have g5 := g4 hag
        simp only [Nat.zero_add] at g5
        simp only [execOp, a1, b1, den_of_agg, Instr.index, Sem.run_bind, hk, Result.andThen_ok, run_underlying hdd, hj, and_self, if_true, hte.sizeOf, part, hte.isAgg, hag, Sem.run_pure, Bool.false_eq_true, if_false, List.getElem?_toArray, g5]
    · cases h6
  case extract x j =>
    simp only [xop] at h
    obtain ⟨v1, h1, h2⟩ := Option.bind_eq_some_iff.1 h
    obtain ⟨a1, a2, a3⟩ := hop x (by simp [Op.operands]) v1 h1
    cases v1 <;> simp only [reduceCtorEq] at h2
    rename_i l
    obtain ⟨u, h3, h4⟩ := Option.map_eq_some_iff.1 h2
    simp only [Prod.mk.injEq, true_and] at h4
    obtain ⟨rfl, rfl⟩ := h4
    have hm : u.mem = true := mems_iff.1 a2 u (List.mem_of_getElem? h3)
    refine Sound.plain (rv := u.den ρ) ?_ rfl (okL_of_mem hm) (fun q hq => a3 q (by simp only [VV.ids, mem_idss]; exact ⟨u, List.mem_of_getElem? h3, hq⟩)) (by simp)
    have hd : u.den ρ = u.den0 ρ := by cases u <;> first | rfl | (simp [VV.mem] at hm)
    have hx : (Instr.extract (VV.den ρ (.tup l)) j).run P w = .ok (u.den0 ρ) w := by simp [VV.den, Instr.extract, h3]
    simp only [execOp, a1, Sem.run_bind, hx, hd]
    rfl
  all_goals simp [xop] at h

end
end Go.VM
