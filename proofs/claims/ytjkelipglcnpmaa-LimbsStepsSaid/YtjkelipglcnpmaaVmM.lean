/- The machine on virtual values: a part of its definition or of its soundness proof. -/
import Derived.Test.YtjkelipglcnpmaaVmL
namespace Go.VM

/-! ### Equality of rows of numbers -/

section
variable {P : Program}

theorem run_equalIn_arr (w : World) (d : Nat) (t e : TypeId) (n : Nat) (xs ys : Array Value) (ht : P.underlying t = some (.array n e)) (hs : (P.info? e).map (·.size) = some 1) (hk : ∃ k, P.underlying e = some (.int k))
    (κ : Nat → IntKind) (f g : Nat → Int) (hx : ∀ i, i < n → xs[i]? = some (.int (κ i) (f i))) (hy : ∀ i, i < n → ys[i]? = some (.int (κ i) (g i))) :
    (Op.equalIn (d + 2) t (.agg xs) (.agg ys)).run P w = .ok ((List.range n).all fun i => f i == g i) w := by
  obtain ⟨k', hk⟩ := hk
  have hsz : (sizeOf e).run P w = .ok 1 w := by
    cases hq : P.info? e with
    | none => simp [hq] at hs
    | some q => simp [hq] at hs; simp [sizeOf, typeInfo, hq, hs]
  have hag : (isAgg e).run P w = .ok false w := by
    unfold isAgg; rw [Sem.run_bind, run_underlying hk]; rfl
  rw [show d + 2 = (d + 1) + 1 from rfl]
  unfold Op.equalIn
  simp only [Sem.run_bind, run_underlying ht, Result.andThen_ok, hsz]
  rw [Std.Legacy.Range.forIn_eq_forIn_range']
  have loop : ∀ ls : List Nat, (∀ i ∈ ls, i < n) → (forIn ls ((none, ()) : Option Bool × Unit) fun i __s => do
            let a ← part e xs (i * 1)
            let b ← part e ys (i * 1)
            let c ← Op.equalIn (d + 1) e a b
            if (!c) = true then pure (ForInStep.done (some false, ())) else pure (ForInStep.yield (none, ())) : Sem (Option Bool × Unit)).run P w =
        .ok (if ls.all (fun i => f i == g i) then (none, ()) else (some false, ())) w := by
    intro ls
    induction ls with
    | nil => intro _; simp
    | cons i ls ih =>
      intro hls
      have h1 : (part e xs (i * 1)).run P w = .ok (.int (κ i) (f i)) w := by
        simp only [part, Sem.run_bind, hag, Result.andThen_ok, Bool.false_eq_true, if_false, Nat.mul_one, hx i (hls i (by simp))]; rfl
      have h2 : (part e ys (i * 1)).run P w = .ok (.int (κ i) (g i)) w := by
        simp only [part, Sem.run_bind, hag, Result.andThen_ok, Bool.false_eq_true, if_false, Nat.mul_one, hy i (hls i (by simp))]; rfl
      have h3 := run_equalIn_int (P := P) w d e (κ i) k' (f i) (g i) hk
      rw [List.forIn_cons]
      simp only [Sem.run_bind, h1, h2, h3, Result.andThen_ok, List.all_cons]
      by_cases hb : (f i == g i) = true
      · simp only [hb, Bool.not_true, Bool.false_eq_true, if_false, Sem.run_pure, Result.andThen_ok, Bool.true_and]
        exact ih fun j hj => hls j (by simp [hj])
      · have hb' : (f i == g i) = false := by simpa using hb
        simp only [hb', Bool.not_false, if_true, Sem.run_pure, Result.andThen_ok, Bool.false_and, Bool.false_eq_true, if_false]
  have := loop (List.range n) (by simp)
  have hr : List.range' [:n].start [:n].size [:n].step = List.range n := by simp [Std.Legacy.Range.size, List.range_eq_range']
  rw [hr, this]
  simp only [Result.andThen_ok]
  cases (List.range n).all fun i => f i == g i <;> rfl

/-- Cell by cell. -/
theorem eqR_cells {xs ys : List VV} {b : Bool} (h : eqR xs ys = some b) : ∃ (κ : Nat → IntKind) (f g : Nat → Int), (∀ i, i < VV.ws xs → (VV.cellss id xs)[i]? = some (.int (κ i) (f i)) ∧ (VV.cellss id ys)[i]? = some (.int (κ i) (g i))) ∧
    b = (List.range (VV.ws xs)).all (fun i => f i == g i) ∧ VV.ws ys = VV.ws xs := by
  induction xs generalizing ys b with
  | nil =>
    unfold eqR at h
    split at h
    · exact ⟨fun _ => .u8, fun _ => 0, fun _ => 0, fun i hi => absurd hi (Nat.not_lt_zero i), by simpa [VV.ws] using h.symm, rfl⟩
    · exact absurd (by assumption : ([] : List VV) = _ :: _) (by simp)
    · cases h
  | cons x xs ih =>
    unfold eqR at h
    split at h
    · exact absurd (by assumption : _ :: _ = ([] : List VV)) (by simp)
    · rename_i k n l xs' k' n' m ys heq
      simp only [List.cons.injEq] at heq
      obtain ⟨rfl, rfl⟩ := heq
      split at h
      · rename_i hk
        obtain ⟨rfl, rfl⟩ := hk
        obtain ⟨b', h1, h2⟩ := Option.map_eq_some_iff.1 h
        obtain ⟨κ, f, g, e1, e2, e3⟩ := ih h1
        have len : ∀ l : List Int, ((VV.ints k n l).cells id).length = n := fun l => by simp [VV.cells]
        refine ⟨fun i => if i < n then k else κ (i - n), fun i => if i < n then l.getD i 0 else f (i - n), fun i => if i < n then m.getD i 0 else g (i - n), fun i hi => ?_, ?_, by simp only [VV.ws, VV.w, e3]⟩
        · simp only [VV.cellss]
          by_cases hin : i < n
          · rw [List.getElem?_append_left (by rw [len]; exact hin), List.getElem?_append_left (by rw [len]; exact hin)]
            simp [VV.cells, hin, List.getD]
          · rw [List.getElem?_append_right (by rw [len]; omega), List.getElem?_append_right (by rw [len]; omega), len, len]
            simp only [hin, if_false]
            exact e1 (i - n) (by simp only [VV.ws, VV.w] at hi; omega)
        · rw [← h2, e2]
          simp only [eqL, VV.ws, VV.w]
          rw [Bool.eq_iff_iff]
          simp only [Bool.and_eq_true, List.all_eq_true, List.mem_range, beq_iff_eq]
          constructor
          · rintro ⟨g1, g2⟩ i hi
            by_cases hin : i < n
            · simp only [hin, if_true]; exact g1 i hin
            · simp only [hin, if_false]; exact g2 (i - n) (by omega)
          · intro g1
            refine ⟨fun i hi => by have := g1 i (by omega); simpa only [hi, if_true] using this, fun i hi => ?_⟩
            have := g1 (i + n) (by omega)
            simpa [show ¬ i + n < n by omega] using this
      · cases h
    · cases h

theorem eqs_arr {t e : TypeId} {n : Nat} (hu : P.underlying t = some (.array n e)) (hs : (P.info? e).map (·.size) = some 1) (hk : ∃ k, P.underlying e = some (.int k)) (hg : P.eqGuardType P.depth t = false) :
    ∀ (w : World) xs ys b, VV.ws xs = n → eqR xs ys = some b → (Op.equal t (.agg (VV.cellss id xs).toArray) (.agg (VV.cellss id ys).toArray)).run P w = .ok b w ∧ P.eqGuardType P.depth t = false := by
  intro w xs ys b hw h
  obtain ⟨κ, f, g, e1, e2, _⟩ := eqR_cells h
  refine ⟨?_, hg⟩
  rw [hw] at e1 e2
  rw [e2]
  exact run_equalIn_arr w 9998 t e n _ _ hu hs hk κ f g (fun i hi => by simpa using (e1 i hi).1) (fun i hi => by simpa using (e1 i hi).2)

theorem eqR_one {k : IntKind} {n : Nat} {l : List Int} {ys : List VV} {b : Bool} (h : eqR [.ints k n l] ys = some b) : ∃ m, ys = [.ints k n m] ∧ b = eqL n l m := by
  unfold eqR at h
  split at h
  · exact absurd (by assumption : [_] = ([] : List VV)) (by simp)
  · rename_i k1 n1 l1 xs1 k2 n2 m2 ys1 heq
    simp only [List.cons.injEq, VV.ints.injEq] at heq
    obtain ⟨⟨rfl, rfl, rfl⟩, rfl⟩ := heq
    split at h
    · rename_i hk
      obtain ⟨rfl, rfl⟩ := hk
      obtain ⟨b', h1, h2⟩ := Option.map_eq_some_iff.1 h
      have : ys1 = [] ∧ b' = true := by
        unfold eqR at h1
        split at h1
        · exact ⟨rfl, by simpa using h1.symm⟩
        · exact absurd (by assumption : ([] : List VV) = _ :: _) (by simp)
        · cases h1
      obtain ⟨rfl, rfl⟩ := this
      exact ⟨m2, rfl, by simpa using h2.symm⟩
    · cases h
  · cases h

theorem eqR_shape {xs ys : List VV} {b : Bool} (h : eqR xs ys = some b) : ∀ x ∈ xs, ∃ k n l, x = .ints k n l := by
  induction xs generalizing ys b with
  | nil => simp
  | cons x xs ih =>
    unfold eqR at h
    split at h
    · exact absurd (by assumption : _ :: _ = ([] : List VV)) (by simp)
    · rename_i k n l xs' k' n' m ys heq
      simp only [List.cons.injEq] at heq
      obtain ⟨rfl, rfl⟩ := heq
      split at h
      · obtain ⟨b', h1, _⟩ := Option.map_eq_some_iff.1 h
        intro y hy
        rcases List.mem_cons.1 hy with rfl | hy
        · exact ⟨_, _, _, rfl⟩
        · exact ih h1 y hy
      · cases h
    · cases h

theorem ints_get (ρ : Nat → Nat) (k : IntKind) (n : Nat) (l : List Int) (i : Nat) (h : i < n) : ((VV.ints k n l).cells ρ)[i]? = some (.int k (l.getD i 0)) := by
  simp [VV.cells, h, List.getD]

end

/-! ### The callees' table -/

abbrev Entry := ∀ α : Type, List VV → List (Nat × Blk) → Nat → (VV → ME → Option α) → Option α

/-- An entry is sound for a function. -/
def EntryOK (P : Program) (f : FuncId) (e : Entry) : Prop :=
  ∀ (α : Type) vs M n (k : VV → ME → Option α) r, e α vs M n k = some r → ∃ v me, k v me = some r ∧ CallOK P f vs M n v me

def tabSp : List (Nat × Entry) → Spec
  | [], _, _, _, _, _, _ => none
  | (g, e) :: l, α, f, vs, M, n, k => bif Nat.beq g f then e α vs M n k else tabSp l α f vs M n k

theorem tab_ok {P : Program} {tab : List (Nat × Entry)} (h : ∀ p ∈ tab, EntryOK P p.1 p.2) : SpecOK P (tabSp tab) := by
  induction tab with
  | nil => intro α f vs M n k r h; simp [tabSp] at h
  | cons p l ih =>
    obtain ⟨g, e⟩ := p
    intro α f vs M n k r hr
    simp only [tabSp] at hr
    cases hb : Nat.beq g f with
    | true =>
      have : g = f := by simpa using hb
      subst this
      simp only [hb, cond_true] at hr
      exact h (g, e) (by simp) α vs M n k r hr
    | false =>
      simp only [hb, cond_false] at hr
      exact ih (fun p hp => h p (by simp [hp])) α f vs M n k r hr

theorem tab_nil {P : Program} : ∀ p ∈ ([] : List (Nat × Entry)), EntryOK P p.1 p.2 := by simp
theorem tab_cons {P : Program} {f : Nat} {e : Entry} {l : List (Nat × Entry)} (h : EntryOK P f e) (hl : ∀ p ∈ l, EntryOK P p.1 p.2) : ∀ p ∈ (f, e) :: l, EntryOK P p.1 p.2 := by
  intro p hp
  rcases List.mem_cons.1 hp with rfl | hp
  · exact h
  · exact hl p hp

/-- The entry of a function of plain values. -/
def pureE {X Y : Type} (inA : List VV → Option X) (F : X → Option Y) (mk : Y → VV) : Entry :=
  fun _ vs _ _ k => (inA vs).bind fun x => (F x).bind fun y => k (mk y) {}

/-- A function of plain values, by its body's run. -/
theorem pure_ok {P : Program} {ty : TypeId → Option TI} {sp : Spec} {lp : Nat → Option (Hint × Summ)} (hmix : P.follows .mixedOrders = true) (hty : TyAll P ty) (hsp : SpecOK P sp)
    {f : FuncId} {fn : Func} {c : Code} (hf : P.funcs[f]? = some fn) (hb : fn.body = some c) (hname : (fn.name == "runtime.NumGoroutine") = false) (hl : LoopsOK P fn.ntmps 0 lp c)
    {X Y : Type} {fuel : Nat} {shp : X → List VV} {inA : List VV → Option X} {F : X → Option Y} {inR : VV → Option Y} {mk : Y → VV}
    (hA : ∀ vs x, inA vs = some x → vs = shp x) (hR : ∀ v y, inR v = some y → v = mk y ∧ (mk y).ids = []) (hS : ∀ x, (shp x).length ≤ fn.ntmps ∧ VV.idss (shp x) = [])
    (hF : ∀ x, F x = xrun ty sp fn.ntmps 0 lp fuel c ⟨initL 0 (shp x), [], 0⟩ (contF ty fn.results.toList fun v _ => inR v)) : EntryOK P f (pureE inA F mk) := by
  intro α vs M n k r h
  simp only [pureE] at h
  obtain ⟨x, h1, h2⟩ := Option.bind_eq_some_iff.1 h
  obtain ⟨y, h3, h4⟩ := Option.bind_eq_some_iff.1 h2
  have hvs := hA vs x h1
  subst hvs
  rw [hF] at h3
  obtain ⟨v, st', g1, g2, g3⟩ := fn_calls hmix hty hsp hf hb hl (hS x).1 h3
  obtain ⟨rfl, hids⟩ := hR v y g1
  refine ⟨mk y, {}, h4, ⟨fn, hf, hname, by rw [hb]; rfl⟩, by simp, fun ρ p w hu _ _ _ => ⟨⟨g2, by simp [hids], fun _ _ h => by simp [getA] at h, by simp⟩, ?_⟩⟩
  refine (g3 ρ w (fun u hu' => ⟨(hu u hu').1, fun i hi => ?_⟩) (fun b blk hb => by simp [getA] at hb) (fun b d hb => by simp [getA] at hb)).mono fun e w' ⟨ρ', he, _, _, _, _, _, q1, q2, q3, q4, q6, q5⟩ => ?_
  · have : i ∈ VV.idss (shp x) := mem_idss.2 ⟨u, hu', hi⟩
    rw [(hS x).2] at this; cases this
  · refine ⟨ρ, ?_, fun _ _ => rfl, ⟨q1, q2, q3, q4, fun b blk h => by simp [getA] at h, fun i h => absurd h (Nat.not_lt_zero i), fun i _ h => absurd h (Nat.not_lt_zero i), fun j hj _ => q5 j hj (fun b hb => by simp [getA] at hb), q6⟩⟩
    rw [he, den_congr (ρ := ρ') (ρ' := ρ) (mk y) (by simp [hids])]

/-- A row of types. -/
abbrev Tab := List (Nat × TI)

theorem tyAll_of {P : Program} {tab : Tab} (h : ∀ p ∈ tab, TyOK P p.1 p.2) : TyAll P (getA tab) := fun t i ht => h (t, i) (getA_mem ht)

end Go.VM
