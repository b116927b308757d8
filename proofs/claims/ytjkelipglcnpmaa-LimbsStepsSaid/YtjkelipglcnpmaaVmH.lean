/- The machine on virtual values: a part of its definition or of its soundness proof. -/
import Derived.Test.YtjkelipglcnpmaaVmG
namespace Go.VM

/-! ### A region, in whatever order -/

/-- Operation o leads from state st to st1. -/
structure StepOK (P : Program) (sz : Nat) (all : Array Oper) (st : VS) (o : Oper) (v : VV) (me : ME) (run : Bool) (st1 : VS) : Prop where
  dst : ∀ d, o.dst = some d → d < sz
  guard : match o.guard with
    | none => run = true
    | some (g, want) => ∃ t, (all[g]?).bind (·.dst) = some t ∧ ((∃ b, getA st.L t = some (.bool b) ∧ run = (b == want)) ∨ (getA st.L t = some (.tup []) ∧ run = false))
  oper : run = true → OperOK P o st.L st.M st.n v me
  skip : run = false → v = .tup [] ∧ me = {}
  L : ∀ t, getA st1.L t = if o.dst = some t then some v else getA st.L t
  M : ∀ b, getA st1.M b = (getA me.up b).or (getA st.M b)
  n : st1.n = st.n + me.nn

/-- The operations lead from st to st'. -/
def RunOK (P : Program) (sz : Nat) (all : Array Oper) (l : List Oper) (st st' : VS) (tr : List (List Nat × List Nat)) : Prop :=
  ∃ (env : Nat → VS) (V : Nat → VV) (E : Nat → ME) (R : Nat → Bool), env 0 = st ∧ env l.length = st' ∧ tr.length = l.length ∧
    (∀ j o, l[j]? = some o → StepOK P sz all (env j) o (V j) (E j) (R j) (env (j + 1))) ∧ ∀ j, j < l.length → tr[j]? = some ((E j).rd, (E j).up.map (·.1))

theorem ev_congr {L L' : List (Nat × VV)} (h : ∀ t, getA L t = getA L' t) (x : Operand) : ev L x = ev L' x := by
  cases x <;> simp [ev, h]

theorem OperOK.congr {P : Program} {o : Oper} {L L' : List (Nat × VV)} {M : List (Nat × Blk)} {n : Nat} {v : VV} {me : ME} (h : OperOK P o L M n v me) (hL : ∀ t, getA L t = getA L' t) : OperOK P o L' M n v me :=
  ⟨h.1, fun ρ p a w hop hmm hinj hpn => h.2 ρ p a w (fun x hx u hu => hop x hx u (by rw [← ev_congr hL]; exact hu)) hmm hinj hpn⟩

theorem RunOK.nil (P : Program) (sz : Nat) (all : Array Oper) (st : VS) : RunOK P sz all [] st st [] :=
  ⟨fun _ => st, fun _ => default, fun _ => {}, fun _ => true, rfl, rfl, rfl, fun j o h => by simp at h, fun j h => by simp at h⟩

theorem RunOK.cons {P : Program} {sz : Nat} {all : Array Oper} {o : Oper} {l : List Oper} {st st1 st' : VS} {v : VV} {me : ME} {run : Bool} {tr : List (List Nat × List Nat)}
    (h : StepOK P sz all st o v me run st1) (hr : RunOK P sz all l st1 st' tr) : RunOK P sz all (o :: l) st st' ((me.rd, me.up.map (·.1)) :: tr) := by
  obtain ⟨env, V, E, R, h0, h1, h2, h3, h4⟩ := hr
  refine ⟨fun j => match j with | 0 => st | j + 1 => env j, fun j => match j with | 0 => v | j + 1 => V j, fun j => match j with | 0 => me | j + 1 => E j, fun j => match j with | 0 => run | j + 1 => R j, rfl, h1, by simp [h2], fun j q hq => ?_, fun j hj => ?_⟩
  · cases j with
    | zero => simp at hq; subst hq; simp only [h0]; exact h
    | succ j => exact h3 j q (by simpa using hq)
  · cases j with
    | zero => rfl
    | succ j => simpa using h4 j (by simpa using hj)

theorem xops_ok {P : Program} {ty : TypeId → Option TI} {sp : Spec} {sz : Nat} (hty : TyAll P ty) (hsp : SpecOK P sp) {α : Type} {all : Array Oper} {k : VS → List (List Nat × List Nat) → Option α} {r : α} :
    ∀ {l : List Oper} {st : VS} {tr0 : List (List Nat × List Nat)}, xops ty sp sz all l st tr0 k = some r → ∃ st' tr, RunOK P sz all l st st' tr ∧ k st' (tr.reverse ++ tr0) = some r := by
  intro l
  induction l with
  | nil => intro st tr0 h; exact ⟨st, [], RunOK.nil _ _ _ _, by simpa [xops] using h⟩
  | cons o l ih =>
    intro st tr0 h
    simp only [xops] at h
    cases hd : dstOK sz o.dst with
    | false => simp [hd] at h
    | true =>
      simp only [hd, cond_true] at h
      have hdst : ∀ d, o.dst = some d → d < sz := by
        intro d e
        rw [e] at hd
        simp only [dstOK, Nat.blt_eq] at hd
        exact hd
      have fin : ∀ {st1 : VS} {v : VV} {me : ME} {run : Bool}, StepOK P sz all st o v me run st1 → xops ty sp sz all l st1 ((me.rd, me.up.map (·.1)) :: tr0) k = some r →
          ∃ st' tr, RunOK P sz all (o :: l) st st' tr ∧ k st' (tr.reverse ++ tr0) = some r := by
        intro st1 v me run hs hx
        obtain ⟨st', tr, h1, h2⟩ := ih hx
        exact ⟨st', _, RunOK.cons hs h1, by simpa using h2⟩
      split at h
      · rename_i hg
        obtain ⟨v, me, h1, h2⟩ := xoper_ok hty hsp h
        exact fin (run := true) ⟨hdst, by rw [hg], fun _ => h2, fun e => (by cases e), fun t => getA_putD _ _ _ _, fun b => getA_applyUp _ _ _, rfl⟩ h1
      · rename_i g want hg
        split at h
        · cases h
        · rename_i t ht
          split at h
          · rename_i b hb
            have hL : ∀ x, getA (setA st.L t (.bool b)) x = getA st.L x := by
              intro x
              rw [getA_setA]
              by_cases e : x = t
              · subst e; rw [if_pos rfl, hb]
              · rw [if_neg e]
            have doIt : ∀ {b' : Bool}, b' = b → (b == want) = true → (xoper ty sp o (setA st.L t (.bool b')) st.M st.n fun v me => xops ty sp sz all l (stepped ⟨setA st.L t (.bool b'), st.M, st.n⟩ o.dst v me) ((me.rd, me.up.map (·.1)) :: tr0) k) = some r →
                ∃ st' tr, RunOK P sz all (o :: l) st st' tr ∧ k st' (tr.reverse ++ tr0) = some r := by
              rintro b' rfl hw h
              obtain ⟨v, me, h1, h2⟩ := xoper_ok hty hsp h
              exact fin (run := true) ⟨hdst, by rw [hg]; exact ⟨t, ht, .inl ⟨b', hb, hw.symm⟩⟩, fun _ => h2.congr hL, fun e => (by cases e), fun x => by rw [← hL]; exact getA_putD _ _ _ _, fun b => getA_applyUp _ _ _, rfl⟩ h1
            have skipIt : ∀ {b' : Bool}, b' = b → (b == want) = false → xops ty sp sz all l (stepped ⟨setA st.L t (.bool b'), st.M, st.n⟩ o.dst (.tup []) {}) (([], []) :: tr0) k = some r →
                ∃ st' tr, RunOK P sz all (o :: l) st st' tr ∧ k st' (tr.reverse ++ tr0) = some r := by
              rintro b' rfl hw h
              exact fin (st1 := stepped ⟨setA st.L t (.bool b'), st.M, st.n⟩ o.dst (.tup []) {}) (run := false) (me := {}) ⟨hdst, by rw [hg]; exact ⟨t, ht, .inl ⟨b', hb, hw.symm⟩⟩, fun e => (by cases e), fun _ => ⟨rfl, rfl⟩, fun x => by rw [← hL]; exact getA_putD _ _ _ _, fun b => getA_applyUp _ _ _, rfl⟩ h
            cases b <;> cases want <;> simp only [cond_true, cond_false] at h
            · exact doIt rfl rfl h
            · exact skipIt rfl rfl h
            · exact skipIt rfl rfl h
            · exact doIt rfl rfl h
          · rename_i hb
            exact fin (st1 := stepped st o.dst (.tup []) {}) (run := false) (me := {}) ⟨hdst, by rw [hg]; exact ⟨t, ht, .inr ⟨hb, rfl⟩⟩, fun e => (by cases e), fun _ => ⟨rfl, rfl⟩, fun x => getA_putD _ _ _ _, fun b => getA_applyUp _ _ _, rfl⟩ h
          · cases h

/-! the last that was written -/

def lastU {K V : Type} (U : Nat → K → Option V) (base : K → Option V) (S : Nat → Bool) : Nat → K → Option V
  | 0, x => base x
  | m + 1, x => if S m = true then (U m x).or (lastU U base S m x) else lastU U base S m x

theorem lastU_congr {K V : Type} {U : Nat → K → Option V} {base : K → Option V} {S S' : Nat → Bool} {m : Nat} {x : K} (h : ∀ i, i < m → (U i x).isSome → S i = S' i) : lastU U base S m x = lastU U base S' m x := by
  induction m with
  | zero => rfl
  | succ m ih =>
    simp only [lastU]
    rw [ih (fun i hi => h i (by omega))]
    cases hu : U m x with
    | none => simp
    | some v => rw [h m (by omega) (by simp [hu])]

theorem lastU_lt {K V : Type} {U : Nat → K → Option V} {base : K → Option V} {m j : Nat} (hj : j ≤ m) (x : K) : lastU U base (fun i => decide (i < j)) m x = lastU U base (fun _ => true) j x := by
  induction m with
  | zero => have : j = 0 := by omega
            subst this; rfl
  | succ m ih =>
    by_cases h : j = m + 1
    · subst h; exact lastU_congr fun i hi _ => by simpa using hi
    · simp only [lastU]
      rw [if_neg (by simp; omega)]
      exact ih (by omega)

theorem lastU_set {K V : Type} {U : Nat → K → Option V} {base : K → Option V} {S S' : Nat → Bool} {m j : Nat} (hj : j < m) (x : K) (hS : ∀ i, i ≠ j → S' i = S i) (hSj : S' j = true) (hSj0 : S j = false)
    (hlater : ∀ i, j < i → i < m → S i = true → (U j x).isSome → U i x = none) : lastU U base S' m x = (U j x).or (lastU U base S m x) := by
  induction m with
  | zero => omega
  | succ m ih =>
    simp only [lastU]
    by_cases h : m = j
    · subst h
      rw [hSj, hSj0, if_pos rfl, if_neg (by simp)]
      congr 1
      exact lastU_congr fun i hi _ => hS i (by omega)
    · rw [hS m h, ih (by omega) (fun i h1 h2 => hlater i h1 (by omega))]
      by_cases hm : S m = true
      · rw [if_pos hm, if_pos hm]
        cases hu : U j x with
        | none => simp
        | some v =>
          have := hlater m (by omega) (by omega) hm (by simp [hu])
          simp [this]
      · rw [if_neg hm, if_neg hm]

/-! the relation -/

structure Ctx where
  sz : Nat
  Own : Nat → Prop
  w0 : World
  n0 : Nat
  ρ0 : Nat → Nat

structure Keeps (Own : Nat → Prop) (w0 w : World) : Prop where
  os : w.os = w0.os
  tape : w.tape = w0.tape
  output : w.output = w0.output
  size : w0.heap.size ≤ w.heap.size
  kept : ∀ k, ¬ Own k → w.heap[k]? = w0.heap[k]?
  new : ∀ k, w0.heap.size ≤ k → Own k
  frz : ∀ ad, w.frozen? ad = w0.frozen? ad

/-- What the machine's parts mean: temporaries by LS, blocks by MS, the known numbers by KS. -/
structure Inv (C : Ctx) (LS : Nat → Option VV) (MS : Nat → Option Blk) (KS : Nat → Prop) (ρ : Nat → Nat) (a : Act) (w : World) : Prop where
  size : a.tmps.size = C.sz
  defers : a.defers = []
  tm : ∀ t v, LS t = some v → a.tmps[t]? = some (v.den ρ) ∧ v.okL ∧ ∀ i ∈ v.ids, KS i
  mm : ∀ b blk, MS b = some blk → w.heap[ρ b]? = some (obj ρ blk) ∧ VV.mems blk.1 = true ∧ (∀ i ∈ VV.idss blk.1, KS i) ∧ KS b ∧ C.Own (ρ b)
  inj : ∀ b c, (MS b).isSome → (MS c).isSome → ρ b = ρ c → b = c
  keeps : Keeps C.Own C.w0 w
  base : ∀ i, i < C.n0 → ρ i = C.ρ0 i

theorem Inv.congr {C : Ctx} {LS LS' : Nat → Option VV} {MS MS' : Nat → Option Blk} {KS KS' : Nat → Prop} {ρ : Nat → Nat} {a : Act} {w : World} (h : Inv C LS MS KS ρ a w)
    (hL : ∀ t, LS t = LS' t) (hM : ∀ b, MS b = MS' b) (hK : ∀ i, KS i ↔ KS' i) : Inv C LS' MS' KS' ρ a w :=
  ⟨h.size, h.defers, fun t v hv => let ⟨a1, a2, a3⟩ := h.tm t v (by rw [hL]; exact hv); ⟨a1, a2, fun i hi => (hK i).1 (a3 i hi)⟩,
    fun b blk hb => let ⟨a1, a2, a3, a4, a5⟩ := h.mm b blk (by rw [hM]; exact hb); ⟨a1, a2, fun i hi => (hK i).1 (a3 i hi), (hK b).1 a4, a5⟩,
    fun b c hb hc => h.inj b c (by rw [hM]; exact hb) (by rw [hM]; exact hc), h.keeps, h.base⟩

/-- One operation, carried out. -/
theorem Inv.step {C : Ctx} {LS LS' : Nat → Option VV} {MS MS' : Nat → Option Blk} {KS : Nat → Prop} {ρ ρ' : Nat → Nat} {a : Act} {w w' : World} (h : Inv C LS MS KS ρ a w)
    {dst : Option Nat} {v : VV} {me : ME} {n : Nat} (hdst : ∀ d, dst = some d → d < C.sz) (hr : RStep KS n v me) (hag : ∀ i, ¬ (n ≤ i ∧ i < n + me.nn) → ρ' i = ρ i) (hms : MStep ρ' n me w w') (hn0 : C.n0 ≤ n)
    (hpn : ∀ i, KS i → ¬ (n ≤ i ∧ i < n + me.nn))
    (hrdM : ∀ b ∈ me.rd, (getA me.up b).isSome → (MS b).isSome)
    (hL : ∀ t, LS' t = if dst = some t then some v else LS t) (hM : ∀ b, MS' b = (getA me.up b).or (MS b)) :
    Inv C LS' MS' (fun i => KS i ∨ (n ≤ i ∧ i < n + me.nn)) ρ' (a.put dst (v.den ρ')) w' := by
  have hold : ∀ i, KS i → ρ' i = ρ i := fun i hi => hag i (hpn i hi)
  -- a block that was there is not a new one
  have hfar : ∀ b, (MS b).isSome → ρ b < w.heap.size := by
    intro b hb
    obtain ⟨blk, hblk⟩ := Option.isSome_iff_exists.1 hb
    exact (Array.getElem?_eq_some_iff.1 (h.mm b blk hblk).1).1
  have hupOwn : ∀ b, (getA me.up b).isSome → C.Own (ρ' b) := by
    intro b hb
    obtain ⟨blk, hblk⟩ := Option.isSome_iff_exists.1 hb
    rcases (hr.up b blk hblk).1 with h1 | h1
    · obtain ⟨x, hx⟩ := Option.isSome_iff_exists.1 (hrdM b h1 hb)
      rw [hold b (h.mm b x hx).2.2.2.1]
      exact (h.mm b x hx).2.2.2.2
    · have := (hms.new (b - n) (by omega)).1
      rw [show n + (b - n) = b by omega] at this
      exact h.keeps.new _ (by have := h.keeps.size; omega)
  refine ⟨?_, ?_, fun t u hu => ?_, fun b blk hb => ?_, fun b c hb hc he => ?_, ⟨hms.os.trans h.keeps.os, hms.tape.trans h.keeps.tape, hms.output.trans h.keeps.output, Nat.le_trans h.keeps.size hms.size, fun k hk => ?_, h.keeps.new, fun ad => (hms.frz ad).trans (h.keeps.frz ad)⟩, fun i hi => by rw [hag i (by omega)]; exact h.base i hi⟩
  · cases dst <;> simp [Act.put, h.size]
  · cases dst <;> simp [Act.put, h.defers]
  · rw [hL] at hu
    by_cases hd : dst = some t
    · rw [if_pos hd] at hu
      simp only [Option.some.injEq] at hu
      subst hu
      subst hd
      refine ⟨?_, hr.ok, hr.ids⟩
      have := hdst t rfl
      simp [Act.put, h.size, this]
    · rw [if_neg hd] at hu
      obtain ⟨a1, a2, a3⟩ := h.tm t u hu
      refine ⟨?_, a2, fun i hi => .inl (a3 i hi)⟩
      rw [den_congr (ρ' := ρ) u (fun i hi => hold i (a3 i hi)), ← a1]
      cases dst with
      | none => rfl
      | some d => simp only [Act.put]; rw [Array.getElem?_setIfInBounds_ne (fun e => hd (by rw [e]))]
  · rw [hM] at hb
    cases hu : getA me.up b with
    | some x =>
      simp only [hu, Option.some_or, Option.some.injEq] at hb
      subst hb
      obtain ⟨u1, u2, u3⟩ := hr.up b x hu
      refine ⟨hms.at' b x hu, u2, u3, ?_, hupOwn b (by simp [hu])⟩
      rcases u1 with u1 | u1
      · exact .inl (hr.rd b u1)
      · exact .inr u1
    | none =>
      simp only [hu, Option.none_or] at hb
      obtain ⟨m1, m2, m3, m4, m5⟩ := h.mm b blk hb
      have hb' : (MS b).isSome := by simp [hb]
      refine ⟨?_, m2, fun i hi => .inl (m3 i hi), .inl m4, by rw [hold b m4]; exact m5⟩
      rw [hold b m4]
      have : obj ρ' blk = obj ρ blk := by simp only [obj]; rw [cellss_congr blk.1 fun i hi => hold i (m3 i hi)]
      rw [this, ← m1]
      refine hms.kept _ (hfar b hb') fun c hc hcb => ?_
      obtain ⟨x, hx⟩ := Option.isSome_iff_exists.1 hc
      rcases (hr.up c x hx).1 with h1 | h1
      · have hcM := hrdM c h1 hc
        obtain ⟨y, hy⟩ := Option.isSome_iff_exists.1 hcM
        rw [hold c (h.mm c y hy).2.2.2.1] at hcb
        have := h.inj c b hcM hb' hcb
        subst this
        rw [hu] at hx; cases hx
      · have := (hms.new (c - n) (by omega)).1
        rw [show n + (c - n) = c by omega] at this
        have := hfar b hb'
        omega
  · -- no two numbers for one block
    have kind : ∀ b, (MS' b).isSome → ((MS b).isSome ∧ KS b) ∨ (n ≤ b ∧ b < n + me.nn) := by
      intro b hb
      rw [hM] at hb
      cases hu : getA me.up b with
      | some x =>
        rcases (hr.up b x hu).1 with h1 | h1
        · have := hrdM b h1 (by simp [hu])
          obtain ⟨y, hy⟩ := Option.isSome_iff_exists.1 this
          exact .inl ⟨this, (h.mm b y hy).2.2.2.1⟩
        · exact .inr h1
      | none =>
        simp only [hu, Option.none_or] at hb
        obtain ⟨y, hy⟩ := Option.isSome_iff_exists.1 hb
        exact .inl ⟨hb, (h.mm b y hy).2.2.2.1⟩
    have newGe : ∀ b, (n ≤ b ∧ b < n + me.nn) → w.heap.size ≤ ρ' b := by
      intro b hb
      have := (hms.new (b - n) (by omega)).1
      rwa [show n + (b - n) = b by omega] at this
    rcases kind b hb with ⟨b1, b2⟩ | hb' <;> rcases kind c hc with ⟨c1, c2⟩ | hc'
    · rw [hold b b2, hold c c2] at he
      exact h.inj b c b1 c1 he
    · have := newGe c hc'
      have h2 := hfar b b1
      rw [hold b b2] at he
      omega
    · have := newGe b hb'
      have h2 := hfar c c1
      rw [hold c c2] at he
      omega
    · have := hms.inj (b - n) (c - n) (by omega) (by omega) (by rw [show n + (b - n) = b by omega, show n + (c - n) = c by omega]; exact he)
      omega
  · -- what is not owned is as it was
    rw [← h.keeps.kept k hk]
    have hlt : ∀ b, (getA me.up b).isSome → ρ' b ≠ k := fun b hb e => hk (by rw [← e]; exact hupOwn b hb)
    by_cases hks : k < w.heap.size
    · exact hms.kept k hks hlt
    · exact absurd (h.keeps.new k (by have := h.keeps.size; omega)) hk

end Go.VM
