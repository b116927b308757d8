/- The machine on virtual values: a part of its definition or of its soundness proof. -/
import Derived.Test.YtjkelipglcnpmaaVmK
namespace Go.VM

/-! ### Loops -/

def iter {X Y : Type} (stp : (X → Option Y) → X → Option Y) : Nat → X → Option Y
  | 0, _ => none
  | k + 1, x => stp (iter stp k) x

section
variable (ty : TypeId → Option TI) (sp : Spec) (sz n0 : Nat) (lp : Nat → Option (Hint × Summ))

/-- What is done behind a round. -/
def contL {X Y : Type} (h ho : Hint) (inX : VS → Option X) (inY : Ex → VS → Option Y) (rec : X → Option Y) : Ex → VS → Option Y
  | .normal, st => bif restrOK (restr h st) && Nat.ble n0 h.n then (inX (restr h st)).bind rec else none
  | e, st => bif restrOK (restr ho st) && Nat.ble n0 ho.n then inY e (restr ho st) else none

/-- A round. -/
def roundL {X Y : Type} (fuel : Nat) (c : Code) (h ho : Hint) (shp : X → VS) (inX : VS → Option X) (inY : Ex → VS → Option Y) (rec : X → Option Y) (x : X) : Option Y :=
  xrun ty sp sz n0 lp fuel c (shp x) (contL n0 h ho inX inY rec)

/-- The summary of a loop that f reckons. -/
def summOf {X Y : Type} (f : X → Option Y) (inX : VS → Option X) (out : Y → Ex × VS) : Summ :=
  fun _ st k => (inX st).bind fun x => (f x).bind fun y => k (out y).1 (out y).2

/-- The summary of a loop that is left in two ways. -/
def summOf2 {X Y : Type} (f : X → Option (Bool × Y)) (inX : VS → Option X) (e1 e2 : Ex) (out : Y → VS) : Summ :=
  fun _ st k => (inX st).bind fun x => (f x).bind fun y => bif y.1 then k e1 (out y.2) else k e2 (out y.2)

theorem summ2_eq {X Y : Type} (f : X → Option (Bool × Y)) (inX : VS → Option X) (e1 e2 : Ex) (out : Y → VS) : summOf2 f inX e1 e2 out = summOf f inX (fun y => (bif y.1 then e1 else e2, out y.2)) := by
  funext α st k
  unfold summOf2 summOf
  congr 1
  funext x
  congr 1
  funext y
  obtain ⟨b, y⟩ := y
  cases b <;> rfl

end

theorem loop_ok {P : Program} {ty : TypeId → Option TI} {sp : Spec} {sz n0 : Nat} {lp : Nat → Option (Hint × Summ)} (hmix : P.follows .mixedOrders = true) (hty : TyAll P ty) (hsp : SpecOK P sp)
    {X Y : Type} {fuel : Nat} {c : Code} {h ho : Hint} {shp : X → VS} {inX : VS → Option X} {out : Y → Ex × VS} {inY : Ex → VS → Option Y}
    (hX : ∀ st x, inX st = some x → st = shp x) (hY : ∀ e st y, inY e st = some y → (e, st) = out y) (hl : LoopsOK P sz n0 lp c)
    (stp : (X → Option Y) → X → Option Y) (hstp : ∀ rec x, stp rec x = roundL ty sp sz n0 lp fuel c h ho shp inX inY rec x) (k : Nat) :
    SummOK P sz n0 (summOf (iter stp k) inX out) h c := by
  have key : ∀ k x y, iter stp k x = some y → LeadsN P sz n0 c k (shp x) (out y).1 (out y).2 := by
    intro k
    induction k with
    | zero => intro x y h; simp [iter] at h
    | succ k ih =>
      intro x y hk
      simp only [iter] at hk
      rw [hstp] at hk
      obtain ⟨e, st', h1, h2⟩ := (xrun_sound hmix hty hsp fuel).1 c (shp x) _ y hl hk
      have out' : ∀ e, e ≠ .normal → contL n0 h ho inX inY (iter stp k) e st' = (bif restrOK (restr ho st') && Nat.ble n0 ho.n then inY e (restr ho st') else none) := by
        intro e he; cases e <;> first | exact absurd rfl he | rfl
      by_cases he : e = .normal
      · subst he
        simp only [contL] at h1
        cases hb : (restrOK (restr h st') && Nat.ble n0 h.n) with
        | false => simp [hb] at h1
        | true =>
          simp only [hb, cond_true] at h1
          simp only [Bool.and_eq_true, Nat.ble_eq] at hb
          obtain ⟨x', h3, h4⟩ := Option.bind_eq_some_iff.1 h1
          have hx := hX _ _ h3
          have hw := restr_weak hb.1
          rw [hx] at hw
          have hn : n0 ≤ (shp x').n := by rw [← hx]; exact hb.2
          exact LeadsN.more (Leads.weak_out h2 hw hn) (ih x' y h4)
      · rw [out' e he] at h1
        cases hb : (restrOK (restr ho st') && Nat.ble n0 ho.n) with
        | false => simp [hb] at h1
        | true =>
          simp only [hb, cond_true] at h1
          simp only [Bool.and_eq_true, Nat.ble_eq] at hb
          have hy := hY _ _ _ h1
          rw [← hy]
          exact LeadsN.last (Leads.weak_out h2 (restr_weak hb.1) hb.2) he
  intro α st kk r _ hs
  unfold summOf at hs
  obtain ⟨x, h1, h2⟩ := Option.bind_eq_some_iff.1 hs
  obtain ⟨y, h3, h4⟩ := Option.bind_eq_some_iff.1 h2
  rw [hX st x h1]
  exact ⟨_, _, h4, (key k x y h3).loop⟩

/-! ### Functions -/

def resV (ty : TypeId → Option TI) (st : VS) : List ResultVar → Option (List VV)
  | [] => some []
  | .tmp t :: l => (getA st.L t).bind fun v => (resV ty st l).bind fun vs => some (v :: vs)
  | .cell t τ :: l => (getA st.L t).bind fun p => (ty τ).bind fun i => (rdAt st.M i p).bind fun u => (resV ty st l).bind fun vs => some (u.1 :: vs)

def resOf : List VV → VV
  | [v] => v
  | l => .tup l

def initL (i : Nat) : List VV → List (Nat × VV)
  | [] => []
  | v :: l => (i, v) :: initL (i + 1) l

/-- Behind the body. -/
def contF {α : Type} (ty : TypeId → Option TI) (rs : List ResultVar) (k : VV → VS → Option α) : Ex → VS → Option α
  | .exit _, _ => none
  | _, st => (resV ty st rs).bind fun l => bif VV.mems l then k (resOf l) st else none

theorem initL_get {vs : List VV} {i t : Nat} {v : VV} (h : getA (initL i vs) t = some v) : i ≤ t ∧ vs[t - i]? = some v := by
  induction vs generalizing i with
  | nil => simp [initL, getA] at h
  | cons u vs ih =>
    simp only [initL, getA] at h
    cases hb : Nat.beq i t with
    | true =>
      have : i = t := by simpa using hb
      subst this
      simp at h
      subst h
      exact ⟨Nat.le_refl _, by simp⟩
    | false =>
      rw [hb] at h
      obtain ⟨h1, h2⟩ := ih h
      exact ⟨by omega, by rw [show t - i = (t - (i + 1)) + 1 by omega]; simpa using h2⟩

theorem mem_den0 {ρ : Nat → Nat} {v : VV} (h : v.mem = true) : v.den ρ = v.den0 ρ := by
  cases v <;> first | rfl | (simp [VV.mem] at h)

def resOne (tmps : Array Value) : ResultVar → Sem Value
  | .tmp t => pure (tmps.getD t undef)
  | .cell x t => do loadVar t (← asAddr (tmps.getD x undef))

theorem results_eq (fn : Func) (tmps : Array Value) : results fn tmps = (do let vs ← fn.results.mapM (resOne tmps); pure (if h : vs.size = 1 then vs[0] else .tuple vs)) := by
  unfold results
  congr 1

theorem run_resV {P : Program} {ty : TypeId → Option TI} (hty : TyAll P ty) {C : Ctx} {ρ : Nat → Nat} {st : VS} {a : Act} {w : World} (hr : Rel C ρ st a w) {rs : List ResultVar} {l : List VV} (h : resV ty st rs = some l) :
    (rs.mapM (resOne a.tmps)).run P w = .ok (l.map (VV.den ρ)) w ∧ (∀ v ∈ l, v.okL ∧ ∀ i ∈ v.ids, i < st.n) := by
  induction rs generalizing l with
  | nil => simp [resV] at h; subst h; simp
  | cons r rs ih =>
    cases r with
    | tmp t =>
      simp only [resV] at h
      obtain ⟨v, h1, h2⟩ := Option.bind_eq_some_iff.1 h
      obtain ⟨vs, h3, h4⟩ := Option.bind_eq_some_iff.1 h2
      simp only [Option.some.injEq] at h4
      subst h4
      obtain ⟨g1, g2⟩ := ih h3
      obtain ⟨a1, a2, a3⟩ := hr.tm t v h1
      refine ⟨?_, fun u hu => ?_⟩
      · have hg : a.tmps.getD t undef = v.den ρ := by simp [a1]
        rw [List.mapM_cons, Sem.run_bind]
        simp only [resOne, hg, Sem.run_pure, Result.andThen_ok, Sem.run_bind, g1, List.map_cons]
      · rcases List.mem_cons.1 hu with rfl | hu
        · exact ⟨a2, a3⟩
        · exact g2 u hu
    | cell x τ =>
      simp only [resV] at h
      obtain ⟨q, h1, h2⟩ := Option.bind_eq_some_iff.1 h
      obtain ⟨i, h3, h4⟩ := Option.bind_eq_some_iff.1 h2
      obtain ⟨⟨u, b⟩, h5, h6⟩ := Option.bind_eq_some_iff.1 h4
      obtain ⟨vs, h7, h8⟩ := Option.bind_eq_some_iff.1 h6
      simp only [Option.some.injEq] at h8
      subst h8
      obtain ⟨g1, g2⟩ := ih h7
      obtain ⟨a1, a2, a3⟩ := hr.tm x q h1
      obtain ⟨ad, b1, b2, b3, b4, _⟩ := rdAt_spec (P := P) (ρ := ρ) (p := fun i => i < st.n) (w := w) (hty τ i h3) h5 a2 a3 (fun blk hb => let ⟨m1, m2, m3, _, _⟩ := hr.mm b blk hb; ⟨m1, m2, m3⟩)
      refine ⟨?_, fun v hv => ?_⟩
      · rw [List.mapM_cons, Sem.run_bind]
        have : (resOne a.tmps (.cell x τ)).run P w = .ok (u.den ρ) w := by
          simp [resOne, a1, b1, asAddr, b2]
        simp only [this, Sem.run_pure, Result.andThen_ok, Sem.run_bind, g1, List.map_cons]
      · rcases List.mem_cons.1 hv with rfl | hv
        · exact ⟨b3, b4⟩
        · exact g2 v hv

/-- A function's body, from arguments and blocks. -/
theorem fn_calls {P : Program} {ty : TypeId → Option TI} {sp : Spec} {lp : Nat → Option (Hint × Summ)} (hmix : P.follows .mixedOrders = true) (hty : TyAll P ty) (hsp : SpecOK P sp)
    {f : FuncId} {fn : Func} {c : Code} (hf : P.funcs[f]? = some fn) (hb : fn.body = some c) {n0 : Nat} (hl : LoopsOK P fn.ntmps n0 lp c) {α : Type} {fuel : Nat} {vs : List VV} {M0 : List (Nat × Blk)} {k : VV → VS → Option α} {r : α}
    (hlen : vs.length ≤ fn.ntmps) (h : xrun ty sp fn.ntmps n0 lp fuel c ⟨initL 0 vs, M0, n0⟩ (contF ty fn.results.toList k) = some r) :
    ∃ v st', k v st' = some r ∧ v.okL ∧ ∀ (ρ : Nat → Nat) (w : World), (∀ u ∈ vs, u.okL ∧ ∀ i ∈ u.ids, i < n0) →
      (∀ b blk, getA M0 b = some blk → w.heap[ρ b]? = some (obj ρ blk) ∧ VV.mems blk.1 = true ∧ (∀ i ∈ VV.idss blk.1, i < n0) ∧ b < n0) →
      (∀ b d, (getA M0 b).isSome → (getA M0 d).isSome → ρ b = ρ d → b = d) →
      Calls P f (vs.map (VV.den ρ)).toArray w fun e w' => ∃ ρ', e = .returned (v.den ρ') ∧ (∀ i, i < n0 → ρ' i = ρ i) ∧ (∀ i ∈ v.ids, i < st'.n) ∧
        (∀ b blk, getA st'.M b = some blk → w'.heap[ρ' b]? = some (obj ρ' blk) ∧ VV.mems blk.1 = true ∧ (∀ i ∈ VV.idss blk.1, i < st'.n) ∧ b < st'.n) ∧
        (∀ b d, (getA st'.M b).isSome → (getA st'.M d).isSome → ρ' b = ρ' d → b = d) ∧
        (∀ b, (getA st'.M b).isSome → w.heap.size ≤ ρ' b ∨ ∃ d, (getA M0 d).isSome ∧ ρ d = ρ' b) ∧
        w'.os = w.os ∧ w'.tape = w.tape ∧ w'.output = w.output ∧ w.heap.size ≤ w'.heap.size ∧ (∀ ad, w'.frozen? ad = w.frozen? ad) ∧
        ∀ j, j < w.heap.size → (∀ b, (getA M0 b).isSome → ρ b ≠ j) → w'.heap[j]? = w.heap[j]? := by
  obtain ⟨e, st', h1, h2⟩ := (xrun_sound hmix hty hsp fuel).1 c _ _ r hl h
  have he : ∃ l, resV ty st' fn.results.toList = some l ∧ VV.mems l = true ∧ k (resOf l) st' = some r := by
    have : (resV ty st' fn.results.toList).bind (fun l => bif VV.mems l then k (resOf l) st' else none) = some r := by
      cases e <;> first | exact h1 | (simp [contF] at h1)
    obtain ⟨l, g1, g2⟩ := Option.bind_eq_some_iff.1 this
    cases hm : VV.mems l with
    | false => simp [hm] at g2
    | true => exact ⟨l, g1, hm, by simpa [hm] using g2⟩
  obtain ⟨l, hl1, hl2, hl3⟩ := he
  have hok : (resOf l).okL := by
    unfold resOf
    split
    · exact okL_of_mem (by simpa [VV.mems] using hl2)
    · exact hl2
  refine ⟨resOf l, st', hl3, hok, fun ρ w hvs hM hinj => ?_⟩
  have hne : e ≠ .normal → e = .ret := by
    intro hn
    cases e with
    | normal => exact absurd rfl hn
    | ret => rfl
    | exit j => simp [contF] at h1
  obtain ⟨_, g2⟩ := h2 (Nat.le_refl n0)
  let C : Ctx := { sz := fn.ntmps, Own := fun j => w.heap.size ≤ j ∨ ∃ d, (getA M0 d).isSome ∧ ρ d = j, w0 := w, n0 := n0, ρ0 := ρ }
  refine calls_of_wp hf hb ?_
  have hargs : ((vs.map (VV.den ρ)).toArray).size = vs.length := by simp
  refine g2 C rfl rfl ρ _ w ?_ _ fun ρ' a' w' hr' => ?_
  · refine ⟨by show _ = fn.ntmps; simp; omega, rfl, fun t v hv => ?_, fun b blk hblk => ?_, fun b d hb hd he => hinj b d hb hd he, ⟨rfl, rfl, rfl, Nat.le_refl _, fun _ _ => rfl, fun j hj => .inl hj, fun _ => rfl⟩, fun _ _ => rfl⟩
    · obtain ⟨_, q2⟩ := initL_get hv
      have hlt : t < vs.length := by
        rcases Nat.lt_or_ge t vs.length with h | h
        · exact h
        · rw [List.getElem?_eq_none (by omega)] at q2; cases q2
      have hm := List.mem_of_getElem? q2
      refine ⟨?_, (hvs v hm).1, (hvs v hm).2⟩
      rw [Array.getElem?_append_left (by simpa using hlt)]
      simp only [Nat.sub_zero] at q2
      simp [q2]
    · obtain ⟨m1, m2, m3, m4⟩ := hM b blk hblk
      exact ⟨m1, m2, m3, m4, .inr ⟨b, by simp [hblk], rfl⟩⟩
  · obtain ⟨q1, q2⟩ := run_resV hty hr' hl1
    have hres : (results fn a'.tmps).run P w' = .ok ((resOf l).den ρ') w' := by
      have hmap : (fn.results.mapM (resOne a'.tmps)).run P w' = .ok (l.map (VV.den ρ')).toArray w' := by
        rw [Array.mapM_eq_mapM_toList, Sem.run_map, q1]; rfl
      rw [results_eq, Sem.run_bind, hmap]
      simp only [Result.andThen_ok]
      cases l with
      | nil => rfl
      | cons v l =>
        cases l with
        | nil => rfl
        | cons u l =>
          simp only [resOf, VV.den]
          have : (VV.den ρ' v :: VV.den ρ' u :: l.map (VV.den ρ')) = (v :: u :: l).map (VV.den0 ρ') := by
            rw [show (VV.den ρ' v :: VV.den ρ' u :: l.map (VV.den ρ')) = (v :: u :: l).map (VV.den ρ') from rfl]
            exact List.map_congr_left fun x hx => mem_den0 (mems_iff.1 hl2 x hx)
          simp only [List.map_cons] at this ⊢
          simp [this]
    have fin : (∃ ρ'', (Ending.returned ((resOf l).den ρ') : Ending) = .returned ((resOf l).den ρ'') ∧ (∀ i, i < n0 → ρ'' i = ρ i) ∧ (∀ i ∈ (resOf l).ids, i < st'.n) ∧
        (∀ b blk, getA st'.M b = some blk → w'.heap[ρ'' b]? = some (obj ρ'' blk) ∧ VV.mems blk.1 = true ∧ (∀ i ∈ VV.idss blk.1, i < st'.n) ∧ b < st'.n) ∧
        (∀ b d, (getA st'.M b).isSome → (getA st'.M d).isSome → ρ'' b = ρ'' d → b = d) ∧
        (∀ b, (getA st'.M b).isSome → w.heap.size ≤ ρ'' b ∨ ∃ d, (getA M0 d).isSome ∧ ρ d = ρ'' b) ∧
        w'.os = w.os ∧ w'.tape = w.tape ∧ w'.output = w.output ∧ w.heap.size ≤ w'.heap.size ∧ (∀ ad, w'.frozen? ad = w.frozen? ad) ∧
        ∀ j, j < w.heap.size → (∀ b, (getA M0 b).isSome → ρ b ≠ j) → w'.heap[j]? = w.heap[j]?) := by
      refine ⟨ρ', rfl, hr'.base, fun i hi => ?_, fun b blk hblk => ?_, fun b d => hr'.inj b d, fun b hb => ?_, hr'.keeps.os, hr'.keeps.tape, hr'.keeps.output, hr'.keeps.size, hr'.keeps.frz, fun j hj hne => ?_⟩
      · have : ∃ v ∈ l, i ∈ v.ids := by
          unfold resOf at hi
          split at hi
          · exact ⟨_, by simp, hi⟩
          · exact mem_idss.1 (by simpa [VV.ids] using hi)
        obtain ⟨v, hv, hi⟩ := this
        exact (q2 v hv).2 i hi
      · obtain ⟨m1, m2, m3, m4, _⟩ := hr'.mm b blk hblk
        exact ⟨m1, m2, m3, m4⟩
      · obtain ⟨blk, hblk⟩ := Option.isSome_iff_exists.1 hb
        exact (hr'.mm b blk hblk).2.2.2.2
      · refine hr'.keeps.kept j ?_
        rintro (h | ⟨d, hd, h⟩)
        · omega
        · exact hne d hd h
    by_cases hn : e = .normal
    · subst hn
      exact ⟨hr'.defers, _, hres, fin⟩
    · have := hne hn
      subst this
      exact ⟨hr'.defers, _, hres, fin⟩

end Go.VM
