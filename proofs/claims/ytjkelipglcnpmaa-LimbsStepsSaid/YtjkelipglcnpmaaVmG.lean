/- The machine on virtual values: a part of its definition or of its soundness proof. -/
import Derived.Test.YtjkelipglcnpmaaVmF
namespace Go.VM

/-! ### Calls, regions -/

structure VS where
  L : List (Nat × VV)
  M : List (Nat × Blk)
  n : Nat

/-- What the callees come to. -/
abbrev Spec := ∀ α : Type, FuncId → List VV → List (Nat × Blk) → Nat → (VV → ME → Option α) → Option α

def applyUp (M : List (Nat × Blk)) : List (Nat × Blk) → List (Nat × Blk)
  | [] => M
  | (b, x) :: r => setA (applyUp M r) b x

theorem getA_applyUp (M : List (Nat × Blk)) (up : List (Nat × Blk)) (b : Nat) : getA (applyUp M up) b = (getA up b).or (getA M b) := by
  induction up with
  | nil => simp [applyUp, getA]
  | cons q r ih =>
    obtain ⟨c, x⟩ := q
    simp only [applyUp, getA_setA, getA]
    by_cases h : b = c
    · subst h; simp
    · have : Nat.beq c b = false := by rw [← Bool.not_eq_true, Nat.beq_eq]; exact fun e => h (Eq.symm e)
      simp [h, this, ih]

def putD (L : List (Nat × VV)) (dst : Option Nat) (v : VV) : List (Nat × VV) := match dst with
  | some d => setA L d v
  | none => L

theorem getA_putD (L : List (Nat × VV)) (dst : Option Nat) (v : VV) (t : Nat) : getA (putD L dst v) t = if dst = some t then some v else getA L t := by
  cases dst with
  | none => simp [putD]
  | some d =>
    simp only [putD, getA_setA, Option.some.injEq]
    by_cases h : t = d
    · subst h; simp
    · rw [if_neg h, if_neg (fun e => h (Eq.symm e))]

section
variable {α : Type} (ty : TypeId → Option TI) (sp : Spec) (sz : Nat)

/-- Every block that is read is there. -/
def rdOK (M : List (Nat × Blk)) : List Nat → Bool
  | [] => true
  | b :: l => (getA M b).isSome && rdOK M l

theorem rdOK_spec {M : List (Nat × Blk)} {l : List Nat} (h : rdOK M l = true) : ∀ b ∈ l, (getA M b).isSome := by
  induction l with
  | nil => simp
  | cons c l ih =>
    simp only [rdOK, Bool.and_eq_true] at h
    intro b hb
    rcases List.mem_cons.1 hb with rfl | hb
    · exact h.1
    · exact ih h.2 b hb

/-- One operation. -/
def xoper (o : Oper) (L : List (Nat × VV)) (M : List (Nat × Blk)) (n : Nat) (k : VV → ME → Option α) : Option α := match o.op with
  | .call { callee := .value f, args := args, argTypes := _ } => (ev L f).bind fun v => match v with
    | .fn g caps => (evs L args.toList).bind fun vs => sp α g (vs ++ caps) M n k
    | _ => none
  | op => (xop ty L M n op).bind fun r => bif rdOK M r.2.2.rd && r.1 then k r.2.1 r.2.2 else none

def dstOK (dst : Option Nat) : Bool := match dst with
  | some d => Nat.blt d sz
  | none => true

def stepped (st : VS) (dst : Option Nat) (v : VV) (me : ME) : VS := ⟨putD st.L dst v, applyUp st.M me.up, st.n + me.nn⟩

/-- The operations of a region, in the order of the text. -/
def xops (all : Array Oper) : List Oper → VS → List (List Nat × List Nat) → (VS → List (List Nat × List Nat) → Option α) → Option α
  | [], st, tr, k => k st tr
  | o :: rest, st, tr, k => bif dstOK sz o.dst then
      match o.guard with
      | none => xoper ty sp o st.L st.M st.n fun v me => xops all rest (stepped st o.dst v me) ((me.rd, me.up.map (·.1)) :: tr) k
      | some (g, want) => match (all[g]?).bind (·.dst) with
        | none => none
        | some t => match getA st.L t with
          | some (.bool b) =>
              bif b then
                bif want then xoper ty sp o (setA st.L t (.bool true)) st.M st.n fun v me => xops all rest (stepped ⟨setA st.L t (.bool true), st.M, st.n⟩ o.dst v me) ((me.rd, me.up.map (·.1)) :: tr) k
                else xops all rest (stepped ⟨setA st.L t (.bool true), st.M, st.n⟩ o.dst (.tup []) {}) (([], []) :: tr) k
              else
                bif want then xops all rest (stepped ⟨setA st.L t (.bool false), st.M, st.n⟩ o.dst (.tup []) {}) (([], []) :: tr) k
                else xoper ty sp o (setA st.L t (.bool false)) st.M st.n fun v me => xops all rest (stepped ⟨setA st.L t (.bool false), st.M, st.n⟩ o.dst v me) ((me.rd, me.up.map (·.1)) :: tr) k
          | some (.tup []) => xops all rest (stepped st o.dst (.tup []) {}) (([], []) :: tr) k
          | _ => none
    else none

end

/-! ### What a call, an operation is sound for -/

/-- The call of a function comes to a value and an effect. -/
def CallOK (P : Program) (f : FuncId) (vs : List VV) (M : List (Nat × Blk)) (n : Nat) (v : VV) (me : ME) : Prop :=
  (∃ fn, P.funcs[f]? = some fn ∧ (fn.name == "runtime.NumGoroutine") = false ∧ fn.body.isNone = false) ∧ (∀ b ∈ me.rd, (getA M b).isSome) ∧
  ∀ (ρ : Nat → Nat) (p : Nat → Prop) (w : World), (∀ u ∈ vs, u.okL ∧ ∀ i ∈ u.ids, p i) → (∀ b ∈ me.rd, MmOK ρ p M w b) →
    (∀ b c, b ∈ me.rd → c ∈ me.rd → (getA M b).isSome → (getA M c).isSome → ρ b = ρ c → b = c) → (∀ i, p i → ¬ (n ≤ i ∧ i < n + me.nn)) →
    RStep p n v me ∧ Calls P f (vs.map (VV.den ρ)).toArray w fun e w' => ∃ ρ', e = .returned (v.den ρ') ∧ (∀ i, ¬ (n ≤ i ∧ i < n + me.nn) → ρ' i = ρ i) ∧ MStep ρ' n me w w'

def SpecOK (P : Program) (sp : Spec) : Prop :=
  ∀ (α : Type) f vs M n (k : VV → ME → Option α) r, sp α f vs M n k = some r → ∃ v me, k v me = some r ∧ CallOK P f vs M n v me

/-- An operation comes to a value and an effect. -/
def OperOK (P : Program) (o : Oper) (L : List (Nat × VV)) (M : List (Nat × Blk)) (n : Nat) (v : VV) (me : ME) : Prop :=
  (∀ b ∈ me.rd, (getA M b).isSome) ∧ ∀ (ρ : Nat → Nat) (p : Nat → Prop) (a : Act) (w : World), (∀ x ∈ o.op.operands.toList, OpOK ρ p L a x) → (∀ b ∈ me.rd, MmOK ρ p M w b) →
    (∀ b c, b ∈ me.rd → c ∈ me.rd → (getA M b).isSome → (getA M c).isSome → ρ b = ρ c → b = c) → (∀ i, p i → ¬ (n ≤ i ∧ i < n + me.nn)) →
    RStep p n v me ∧ ∀ K Q, (∀ ρ' w', (∀ i, ¬ (n ≤ i ∧ i < n + me.nn) → ρ' i = ρ i) → MStep ρ' n me w w' → K (a.put o.dst (v.den ρ')) w') → o.wp P a w K Q

theorem xoper_ok {P : Program} {ty : TypeId → Option TI} {sp : Spec} (hty : TyAll P ty) (hsp : SpecOK P sp) {α : Type} {o : Oper} {L : List (Nat × VV)} {M : List (Nat × Blk)} {n : Nat} {k : VV → ME → Option α} {r : α}
    (h : xoper ty sp o L M n k = some r) : ∃ v me, k v me = some r ∧ OperOK P o L M n v me := by
  have plain : ((xop ty L M n o.op).bind fun r => bif rdOK M r.2.2.rd && r.1 then k r.2.1 r.2.2 else none) = some r → ∃ v me, k v me = some r ∧ OperOK P o L M n v me := by
    intro h
    obtain ⟨⟨c, v, me⟩, h1, h2⟩ := Option.bind_eq_some_iff.1 h
    cases hb : (rdOK M me.rd && c) with
    | false => simp [hb] at h2
    | true =>
      simp only [hb, cond_true] at h2
      simp only [Bool.and_eq_true] at hb
      obtain ⟨hb1, rfl⟩ := hb
      refine ⟨v, me, h2, rdOK_spec hb1, fun ρ p a w hop hmm _ hpn => ?_⟩
      obtain ⟨g1, ρ', rv, w', g2, rfl, g3, g4⟩ := xop_sound hty h1 hop hmm hpn
      refine ⟨g1, fun K Q hK => ?_⟩
      unfold Oper.wp
      rcases g2 with g2 | ⟨g2, g5⟩
      · rw [g2]; exact hK ρ' w' g3 g4
      · rw [g2]; have := hK ρ' w' g3 g4; rw [g5] at this; exact this
  unfold xoper at h
  split at h
  · rename_i f args ats hc
    obtain ⟨u, h1, h2⟩ := Option.bind_eq_some_iff.1 h
    cases u <;> simp only [reduceCtorEq] at h2
    rename_i g caps
    obtain ⟨vs, h3, h4⟩ := Option.bind_eq_some_iff.1 h2
    obtain ⟨v, me, h5, ⟨fn, f1, f2, f3⟩, hrd, h6⟩ := hsp _ _ _ _ _ _ _ h4
    refine ⟨v, me, h5, hrd, fun ρ p a w hop hmm hinj hpn => ?_⟩
    have hops : o.op.operands = #[f] ++ args := by rw [hc]; rfl
    obtain ⟨a1, a2, a3⟩ := hop f (by rw [hops]; simp) _ h1
    obtain ⟨e1, e2, e3⟩ := evs_spec (ρ := ρ) (p := p) h3 (fun x hx => hop x (by rw [hops]; simp; exact .inr (by simpa using hx)))
    have hcaps : VV.mems caps = true := a2
    obtain ⟨g1, g2⟩ := h6 ρ p w (fun u hu => by
      rcases List.mem_append.1 hu with hu | hu
      · exact ⟨e2 u hu, e3 u hu⟩
      · exact ⟨okL_of_mem (mems_iff.1 hcaps u hu), fun i hi => a3 i (by simp only [VV.ids, mem_idss]; exact ⟨u, hu, hi⟩)⟩) hmm hinj hpn
    refine ⟨g1, fun K Q hK => ?_⟩
    have hargs : ((vs ++ caps).map (VV.den ρ)).toArray = args.map a.eval ++ (VV.caps ρ caps).toArray := by
      apply Array.ext'
      simp only [List.map_append, Array.toList_append, Array.toList_map, e1, caps_eq]
      congr 1
      refine List.map_congr_left fun v hv => ?_
      have := mems_iff.1 hcaps v hv
      cases v <;> first | rfl | (simp [VV.mem] at this)
    have hrun : (execOp a.eval o).run P w = .ok (.enter g (args.map a.eval ++ (VV.caps ρ caps).toArray)) w := by
      simp only [execOp, hc, resolve, a1, VV.den, VV.den0, VV.cells, List.headD_cons, Deferred.ofValue]
      have f2' : ¬ fn.name = "runtime.NumGoroutine" := by simpa using f2
      have f3' : fn.body.isNone = false := f3
      simp [invoke, callFunc, f1, f2']
      intro hb; simp [hb] at f3'
    unfold Oper.wp
    rw [hrun]
    simp only [Oper.upon]
    rw [← hargs]
    refine g2.mono fun e w' ⟨ρ', he, hag, hms⟩ => ?_
    subst he
    exact hK ρ' w' hag hms
  · rename_i op hop
    exact plain (by simpa using h)

end Go.VM
