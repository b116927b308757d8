/- Plain laws: lemmas that hold with no condition but those that each states. -/
import Derived.Test.YtlncodfolaoilaaQ1
import Derived.Laws.Bits64
import Derived.Laws.Bits64b
import Derived.WalkKit
import Derived.ProofKit
import Derived.OpenShut
import Derived.ReadAgain
import Derived.Deep.Slices
import Derived.Test.YtlncodfolaoilaaProg
import Derived.KernelRfl
namespace Go.VM
def iter {X Y : Type} (stp : (X → Option Y) → X → Option Y) : Nat → X → Option Y
  | 0, _ => none
  | k + 1, x => stp (iter stp k) x
def alt {A B C : Type} (f : A → C) (g : B → C) : A ⊕ B → C
  | .inl a => f a
  | .inr b => g b
def des1 {Y : Type} (e : Ex) (o : Y → VS) : ∀ α : Type, Y → (Ex → VS → Option α) → Option α := fun _ y k => k e (o y)
def desA {Y Z : Type} (d1 : ∀ α : Type, Y → (Ex → VS → Option α) → Option α) (d2 : ∀ α : Type, Z → (Ex → VS → Option α) → Option α) : ∀ α : Type, Y ⊕ Z → (Ex → VS → Option α) → Option α :=
  fun α y k => alt (fun a => d1 α a k) (fun b => d2 α b k) y
theorem desA_ok {Y Z : Type} {d1 : ∀ α : Type, Y → (Ex → VS → Option α) → Option α} {d2 : ∀ α : Type, Z → (Ex → VS → Option α) → Option α} {o1 : Y → Ex × VS} {o2 : Z → Ex × VS}
    (h1 : ∀ α y k, d1 α y k = k (o1 y).1 (o1 y).2) (h2 : ∀ α y k, d2 α y k = k (o2 y).1 (o2 y).2) (α : Type) (y : Y ⊕ Z) (k : Ex → VS → Option α) : desA d1 d2 α y k = k (alt o1 o2 y).1 (alt o1 o2 y).2 := by
  cases y with
  | inl y => exact h1 α y k
  | inr y => exact h2 α y k
section
variable (ty : TypeId → Option TI) (sp : Spec) (sz n0 : Nat) (lp : Nat → Option (Hint × Summ))
def contL {X Y : Type} (h ho : Hint) (inX : VS → Option X) (inY : Ex → VS → Option Y) (rec : X → Option Y) : Ex → VS → Option Y
  | .normal, st => (canonH n0 h st).bind fun s => (inX s).bind rec
  | e, st => (canonH n0 ho st).bind fun s => inY e s
def roundL {X Y : Type} (fuel : Nat) (c : Code) (h ho : Hint) (shp : X → VS) (inX : VS → Option X) (inY : Ex → VS → Option Y) (rec : X → Option Y) (x : X) : Option Y :=
  xrun ty sp sz n0 lp fuel c (shp x) (contL n0 h ho inX inY rec)
def summOf {X Y : Type} (f : X → Option Y) (inX : VS → Option X) (des : ∀ α : Type, Y → (Ex → VS → Option α) → Option α) : Summ :=
  fun α st k => (inX st).bind fun x => (f x).bind fun y => des α y k
end
theorem loop_ok {P : Program} {ty : TypeId → Option TI} {sp : Spec} {sz n0 : Nat} {lp : Nat → Option (Hint × Summ)} (hmix : P.follows .mixedOrders = true) (hty : TyAll P ty) (hsp : SpecOK P sp)
    {X Y : Type} {fuel : Nat} {c : Code} {h ho : Hint} {shp : X → VS} {inX : VS → Option X} {des : ∀ α : Type, Y → (Ex → VS → Option α) → Option α} {out : Y → Ex × VS} {inY : Ex → VS → Option Y}
    (hX : ∀ st x, inX st = some x → st = shp x) (hY : ∀ e st y, inY e st = some y → (e, st) = out y) (hdes : ∀ α y k, des α y k = k (out y).1 (out y).2) (hl : LoopsOK P sz n0 lp c)
    (stp : (X → Option Y) → X → Option Y) (hstp : ∀ rec x, stp rec x = roundL ty sp sz n0 lp fuel c h ho shp inX inY rec x) (k : Nat) :
    SummOK P sz n0 (summOf (iter stp k) inX des) c := by
  have key : ∀ k x y, iter stp k x = some y → LeadsN P sz n0 c k (shp x) (out y).1 (out y).2 := by
    intro k
    induction k with
    | zero => intro x y h; simp [iter] at h
    | succ k ih =>
      intro x y hk
      simp only [iter] at hk
      rw [hstp] at hk
      obtain ⟨e, st', h1, h2⟩ := (xrun_sound hmix hty hsp fuel).1 c (shp x) _ y hl hk
      have out' : ∀ e, e ≠ .normal → contL n0 h ho inX inY (iter stp k) e st' = (canonH n0 ho st').bind fun s => inY e s := by
        intro e he; cases e <;> first | exact absurd rfl he | rfl
      by_cases he : e = .normal
      · subst he
        simp only [contL] at h1
        obtain ⟨s, h3, h4⟩ := Option.bind_eq_some_iff.1 h1
        obtain ⟨x', h5, h6⟩ := Option.bind_eq_some_iff.1 h4
        have hx := hX _ _ h5
        subst hx
        exact LeadsN.more (Leads.weak_out h2 (canonH_rel h3)) (ih x' y h6)
      · rw [out' e he] at h1
        obtain ⟨s, h3, h4⟩ := Option.bind_eq_some_iff.1 h1
        have hy := hY _ _ _ h4
        rw [← hy]
        exact LeadsN.last (Leads.weak_out h2 (canonH_rel h3)) he
  intro α st kk r hs
  unfold summOf at hs
  obtain ⟨x, h1, h2⟩ := Option.bind_eq_some_iff.1 hs
  obtain ⟨y, h3, h4⟩ := Option.bind_eq_some_iff.1 h2
  rw [hdes] at h4
  rw [hX st x h1]
  exact ⟨_, _, k, h4, key k x y h3⟩
def summOr {X : Type} (inX : VS → Option X) (s1 s2 : Summ) : Summ := fun α st k => bif (inX st).isSome then s1 α st k else s2 α st k
theorem summOr_ok {P : Program} {sz n0 : Nat} {X : Type} {inX : VS → Option X} {s1 s2 : Summ} {c : Code} (h1 : SummOK P sz n0 s1 c) (h2 : SummOK P sz n0 s2 c) : SummOK P sz n0 (summOr inX s1 s2) c := by
  intro α st k r h
  simp only [summOr] at h
  cases hb : (inX st).isSome with
  | true => rw [hb] at h; exact h1 α st k r h
  | false => rw [hb] at h; exact h2 α st k r h
def resV (ty : TypeId → Option TI) (st : VS) : List ResultVar → Option (List VV)
  | [] => some []
  | .tmp t :: l => (getA st.L t).bind fun v => (resV ty st l).bind fun vs => some (v :: vs)
  | .cell t τ :: l => (getA st.L t).bind fun p => (ty τ).bind fun i => (rdAt st.M i p).bind fun u => bif u.1 then (resV ty st l).bind fun vs => some (u.2.1 :: vs) else none
def resOf : List VV → VV
  | [v] => v
  | l => .tup l
def initL (i : Nat) : List VV → List (Nat × VV)
  | [] => []
  | v :: l => (i, v) :: initL (i + 1) l
def contF {α : Type} (ty : TypeId → Option TI) (n0 : Nat) (rs : List ResultVar) (k : VS → Option α) : Ex → VS → Option α
  | .exit _, _ => none
  | _, st => (resV ty st rs).bind fun l => bif VV.mems l then (canon n0 [0] ⟨[(0, resOf l)], st.M, st.n⟩).bind k else none
theorem initL_get {vs : List VV} {i t : Nat} {v : VV} (h : getA (initL i vs) t = some v) : i ≤ t ∧ vs[t - i]? = some v := by
  induction vs generalizing i with
  | nil => simp [initL, getA] at h
  | cons u vs ih =>
    simp only [initL, getA] at h
    cases hb : Nat.beq i t with
    | true =>
      have : i = t := by simpa using hb
      subst this
      simp at h
      subst h
      exact ⟨Nat.le_refl _, by simp⟩
    | false =>
      rw [hb] at h
      obtain ⟨h1, h2⟩ := ih h
      exact ⟨by omega, by rw [show t - i = (t - (i + 1)) + 1 by omega]; simpa using h2⟩
theorem mem_den0 {ρ : Nat → Nat} {v : VV} (h : v.mem = true) : v.den ρ = v.den0 ρ := by
  cases v <;> first | rfl | (simp [VV.mem] at h)
def resOne (tmps : Array Value) : ResultVar → Sem Value
  | .tmp t => pure (tmps.getD t undef)
  | .cell x t => do loadVar t (← asAddr (tmps.getD x undef))
theorem results_eq (fn : Func) (tmps : Array Value) : results fn tmps = (do let vs ← fn.results.mapM (resOne tmps); pure (if h : vs.size = 1 then vs[0] else .tuple vs)) := by
  unfold results
  congr 1
theorem run_resV {P : Program} {ty : TypeId → Option TI} (hty : TyAll P ty) {C : Ctx} {ρ : Nat → Nat} {st : VS} {a : Act} {w : World} (hr : Rel C ρ st a w) {rs : List ResultVar} {l : List VV} (h : resV ty st rs = some l) :
    (rs.mapM (resOne a.tmps)).run P w = .ok (l.map (VV.den ρ)) w ∧ (∀ v ∈ l, v.okL ∧ ∀ i ∈ v.ids, i < st.n) := by
  induction rs generalizing l with
  | nil => simp [resV] at h; subst h; simp
  | cons r rs ih =>
    cases r with
    | tmp t =>
      simp only [resV] at h
      obtain ⟨v, h1, h2⟩ := Option.bind_eq_some_iff.1 h
      obtain ⟨vs, h3, h4⟩ := Option.bind_eq_some_iff.1 h2
      simp only [Option.some.injEq] at h4
      subst h4
      obtain ⟨g1, g2⟩ := ih h3
      obtain ⟨a1, a2, a3⟩ := hr.tm t v h1
      refine ⟨?_, fun u hu => ?_⟩
      · have hg : a.tmps.getD t undef = v.den ρ := by simp [a1]
        rw [List.mapM_cons, Sem.run_bind]
        simp only [resOne, hg, Sem.run_pure, Result.andThen_ok, Sem.run_bind, g1, List.map_cons]
      · rcases List.mem_cons.1 hu with rfl | hu
        · exact ⟨a2, a3⟩
        · exact g2 u hu
    | cell x τ =>
      simp only [resV] at h
      obtain ⟨q, h1, h2⟩ := Option.bind_eq_some_iff.1 h
      obtain ⟨i, h3, h4⟩ := Option.bind_eq_some_iff.1 h2
      obtain ⟨⟨cc, u, b⟩, h5, h6⟩ := Option.bind_eq_some_iff.1 h4
      cases cc with
      | false => simp at h6
      | true =>
      simp only [cond_true] at h6
      obtain ⟨vs, h7, h8⟩ := Option.bind_eq_some_iff.1 h6
      simp only [Option.some.injEq] at h8
      subst h8
      obtain ⟨g1, g2⟩ := ih h7
      obtain ⟨a1, a2, a3⟩ := hr.tm x q h1
      obtain ⟨ad, b1, b2, b3, b4, _⟩ := rdAt_spec (P := P) (ρ := ρ) (p := fun i => i < st.n) (w := w) (hty τ i h3) h5 a2 a3 (fun blk hb => let ⟨m1, m2, m3, _, _⟩ := hr.mm b blk hb; ⟨m1, m2, m3⟩)
      refine ⟨?_, fun v hv => ?_⟩
      · rw [List.mapM_cons, Sem.run_bind]
        have : (resOne a.tmps (.cell x τ)).run P w = .ok (u.den ρ) w := by
          simp [resOne, a1, b1, asAddr, b2]
        simp only [this, Sem.run_pure, Result.andThen_ok, Sem.run_bind, g1, List.map_cons]
      · rcases List.mem_cons.1 hv with rfl | hv
        · exact ⟨b3, b4⟩
        · exact g2 v hv
structure Left (n0 : Nat) (M0 : List (Nat × Blk)) (s : VS) (ρ ρ' : Nat → Nat) (w w' : World) : Prop where
  base : ∀ i, i < n0 → ρ' i = ρ i
  mm : ∀ b x, getA s.M b = some x → Holds ρ' w' b x
  inj : ∀ b c, b ≠ c → Parted ρ' (getA s.M) b c
  src : ∀ b x, getA s.M b = some x → ∀ k, own ρ' b x k → w.heap.size ≤ k ∨ ∃ d y, getA M0 d = some y ∧ own ρ d y k
  os : w'.os = w.os
  tape : w'.tape = w.tape
  output : w'.output = w.output
  size : w.heap.size ≤ w'.heap.size
  kept : ∀ j, j < w.heap.size → (∀ d y, getA M0 d = some y → ¬ own ρ d y j) → w'.heap[j]? = w.heap[j]?
theorem fn_calls {P : Program} {ty : TypeId → Option TI} {sp : Spec} {lp : Nat → Option (Hint × Summ)} (hmix : P.follows .mixedOrders = true) (hty : TyAll P ty) (hsp : SpecOK P sp)
    {f : FuncId} {fn : Func} {c : Code} (hf : P.funcs[f]? = some fn) (hb : fn.body = some c) {n0 : Nat} (hl : LoopsOK P fn.ntmps n0 lp c) {α : Type} {fuel : Nat} {vs : List VV} {M0 : List (Nat × Blk)} {k : VS → Option α} {r : α}
    (hlen : vs.length ≤ fn.ntmps) (h : xrun ty sp fn.ntmps n0 lp fuel c ⟨initL 0 vs, M0, n0⟩ (contF ty n0 fn.results.toList k) = some r) :
    ∃ s, k s = some r ∧ n0 ≤ s.n ∧ (∀ b x, getA s.M b = some x → b < s.n ∧ ∀ i ∈ bids x, i < s.n) ∧ ∀ v, getA s.L 0 = some v → v.okL ∧ (∀ i ∈ v.ids, i < s.n) ∧ ∀ (ρ : Nat → Nat) (w : World), (∀ u ∈ vs, u.okL ∧ ∀ i ∈ u.ids, i < n0) →
      (∀ b x, getA M0 b = some x → Holds ρ w b x ∧ VV.mems x.1 = true ∧ (∀ i ∈ bids x, i < n0) ∧ b < n0) →
      (∀ b d, b ≠ d → Parted ρ (getA M0) b d) → (GL w ∧ ∀ b x, getA M0 b = some x → ∀ k, own ρ b x k → ∀ g ∈ globs, g.1 ≠ k) →
      Calls P f (vs.map (VV.den ρ)).toArray w fun e w' => ∃ ρ', e = .returned (v.den ρ') ∧ Left n0 M0 s ρ ρ' w w' := by
  obtain ⟨e, st', h1, h2⟩ := (xrun_sound hmix hty hsp fuel).1 c _ _ r hl h
  have he : ∃ l s, resV ty st' fn.results.toList = some l ∧ VV.mems l = true ∧ canon n0 [0] ⟨[(0, resOf l)], st'.M, st'.n⟩ = some s ∧ k s = some r := by
    have : (resV ty st' fn.results.toList).bind (fun l => bif VV.mems l then (canon n0 [0] ⟨[(0, resOf l)], st'.M, st'.n⟩).bind k else none) = some r := by
      cases e <;> first | exact h1 | (simp [contF] at h1)
    obtain ⟨l, g1, g2⟩ := Option.bind_eq_some_iff.1 this
    cases hm : VV.mems l with
    | false => simp [hm] at g2
    | true =>
      simp only [hm, cond_true] at g2
      obtain ⟨s, g3, g4⟩ := Option.bind_eq_some_iff.1 g2
      exact ⟨l, s, g1, hm, g3, g4⟩
  obtain ⟨l, s, hl1, hl2, hs, hl3⟩ := he
  have hren := canonW_spec hs
  have hpick : pickA (α := VV) [(0, resOf l)] [0] = [(0, resOf l)] := rfl
  rw [hpick] at hren
  generalize horder : orderOf n0 st'.M (canon.lids [(0, resOf l)]) = ord at hren
  refine ⟨s, hl3, by rw [hren.n]; exact hren.le, fun b x hx => ?_, fun v hv => ?_⟩
  · obtain ⟨_, _, _, h3, h4⟩ := hren.M b x hx
    rw [hren.n]; exact ⟨h3, h4⟩
  obtain ⟨u, hu1, hu2, hu3⟩ := hren.L 0 v hv
  have hu : u = resOf l := by simpa [getA] using hu1.symm
  subst hu
  have hok0 : (resOf l).okL := by
    unfold resOf
    split
    · exact okL_of_mem (by simpa [VV.mems] using hl2)
    · exact hl2
  have hok : v.okL := by rw [hu2] at hok0; exact okL_ren.1 hok0
  refine ⟨hok, fun i hi => by rw [hren.n]; exact hu3 i hi, fun ρ w hvs hM hinj hgd => ?_⟩
  have hne : e ≠ .normal → e = .ret := by
    intro hn
    cases e with
    | normal => exact absurd rfl hn
    | ret => rfl
    | exit j => simp [contF] at h1
  obtain ⟨_, g2⟩ := h2 (Nat.le_refl n0)
  let C : Ctx := { sz := fn.ntmps, Own := fun j => w.heap.size ≤ j ∨ ∃ d y, getA M0 d = some y ∧ own ρ d y j, w0 := w, n0 := n0, ρ0 := ρ }
  refine calls_of_wp hf hb ?_
  have hargs : ((vs.map (VV.den ρ)).toArray).size = vs.length := by simp
  refine g2 C rfl rfl ρ _ w ?_ _ fun ρ' a' w' hr' => ?_
  · refine ⟨by show _ = fn.ntmps; simp; omega, rfl, fun t v hv => ?_, fun b x hx => ?_, fun b d hbd => hinj b d hbd, ⟨rfl, rfl, rfl, Nat.le_refl _, fun _ _ => rfl, fun j hj => .inl hj, hgd.1, fun g hg ho => ?_⟩, fun _ _ => rfl⟩
    · obtain ⟨_, q2⟩ := initL_get hv
      have hlt : t < vs.length := by
        rcases Nat.lt_or_ge t vs.length with h | h
        · exact h
        · rw [List.getElem?_eq_none (by omega)] at q2; cases q2
      have hm := List.mem_of_getElem? q2
      refine ⟨?_, (hvs v hm).1, (hvs v hm).2⟩
      rw [Array.getElem?_append_left (by simpa using hlt)]
      simp only [Nat.sub_zero] at q2
      simp [q2]
    · obtain ⟨m1, m2, m3, m4⟩ := hM b x hx
      exact ⟨m1, m2, m3, m4, fun k hk => .inr ⟨b, x, hx, hk⟩⟩
    · rcases ho with ho | ⟨d, y, hd, ho⟩
      · obtain ⟨_, _, _, hh⟩ := hgd.1 g hg
        have ho' : w.heap.size ≤ g.1 := ho
        have := heap_lt hh
        omega
      · exact hgd.2 d y hd _ ho g hg rfl
  · obtain ⟨q1, q2⟩ := run_resV hty hr' hl1
    have hres : (results fn a'.tmps).run P w' = .ok ((resOf l).den ρ') w' := by
      have hmap : (fn.results.mapM (resOne a'.tmps)).run P w' = .ok (l.map (VV.den ρ')).toArray w' := by
        rw [Array.mapM_eq_mapM_toList, Sem.run_map, q1]; rfl
      rw [results_eq, Sem.run_bind, hmap]
      simp only [Result.andThen_ok]
      cases l with
      | nil => rfl
      | cons v l =>
        cases l with
        | nil => rfl
        | cons u l =>
          simp only [resOf, VV.den]
          have : (VV.den ρ' v :: VV.den ρ' u :: l.map (VV.den ρ')) = (v :: u :: l).map (VV.den0 ρ') := by
            rw [show (VV.den ρ' v :: VV.den ρ' u :: l.map (VV.den ρ')) = (v :: u :: l).map (VV.den ρ') from rfl]
            exact List.map_congr_left fun x hx => mem_den0 (mems_iff.1 hl2 x hx)
          simp only [List.map_cons] at this ⊢
          simp [this]
    have hren0 : Renames n0 [] st'.M ord ⟨[], s.M, s.n⟩ := ⟨hren.n, hren.le, hren.fix, hren.inj, ⟨fun i => i, rfl, by simp⟩, fun t v h => by simp [getA] at h, hren.M⟩
    have hrel := hren0.rel (st := st') (fun t v h => by simp [getA] at h) (C := C) rfl hr'
    have fin : ∃ ρ'', (Ending.returned ((resOf l).den ρ') : Ending) = .returned (v.den ρ'') ∧ Left n0 M0 s ρ ρ'' w w' := by
      refine ⟨fun i => ρ' (ord.getD i 0), by rw [hu2, den_ren], ⟨fun i hi => ?_, fun b x hx => ?_, hrel.inj, fun b x hx k hk => ?_, hr'.keeps.os, hr'.keeps.tape, hr'.keeps.output, hr'.keeps.size, fun j hj hne => ?_⟩⟩
      · show ρ' (ord.getD i 0) = ρ i
        rw [hren.fix i hi]; exact hr'.base i hi
      · exact (hrel.mm b x hx).1
      · exact (hrel.mm b x hx).2.2.2.2 k hk
      · refine hr'.keeps.kept j ?_
        rintro (h | ⟨d, y, hd, h⟩)
        · omega
        · exact hne d y hd h
    by_cases hn : e = .normal
    · subst hn
      exact ⟨hr'.defers, _, hres, fin⟩
    · have := hne hn
      subst this
      exact ⟨hr'.defers, _, hres, fin⟩
end Go.VM

namespace Go.VM
section
variable {P : Program}
theorem run_equalIn_arr (w : World) (d : Nat) (t e : TypeId) (n : Nat) (xs ys : Array Value) (ht : P.underlying t = some (.array n e)) (hs : (P.info? e).map (·.size) = some 1) (hk : ∃ k, P.underlying e = some (.int k))
    (κ : Nat → IntKind) (f g : Nat → Int) (hx : ∀ i, i < n → xs[i]? = some (.int (κ i) (f i))) (hy : ∀ i, i < n → ys[i]? = some (.int (κ i) (g i))) :
    (Op.equalIn (d + 2) t (.agg xs) (.agg ys)).run P w = .ok ((List.range n).all fun i => f i == g i) w := by
  obtain ⟨k', hk⟩ := hk
  have hsz : (sizeOf e).run P w = .ok 1 w := by
    cases hq : P.info? e with
    | none => simp [hq] at hs
    | some q => simp [hq] at hs; simp [sizeOf, typeInfo, hq, hs]
  have hag : (isAgg e).run P w = .ok false w := by
    unfold isAgg; rw [Sem.run_bind, run_underlying hk]; rfl
  rw [show d + 2 = (d + 1) + 1 from rfl]
  unfold Op.equalIn
  simp only [Sem.run_bind, run_underlying ht, Result.andThen_ok, hsz]
  rw [Std.Legacy.Range.forIn_eq_forIn_range']
  have loop : ∀ ls : List Nat, (∀ i ∈ ls, i < n) → (forIn ls ((none, ()) : Option Bool × Unit) fun i __s => do
            let a ← part e xs (i * 1)
            let b ← part e ys (i * 1)
            let c ← Op.equalIn (d + 1) e a b
            if (!c) = true then pure (ForInStep.done (some false, ())) else pure (ForInStep.yield (none, ())) : Sem (Option Bool × Unit)).run P w =
        .ok (if ls.all (fun i => f i == g i) then (none, ()) else (some false, ())) w := by
    intro ls
    induction ls with
    | nil => intro _; simp
    | cons i ls ih =>
      intro hls
      have h1 : (part e xs (i * 1)).run P w = .ok (.int (κ i) (f i)) w := by
        simp only [part, Sem.run_bind, hag, Result.andThen_ok, Bool.false_eq_true, if_false, Nat.mul_one, hx i (hls i (by simp))]; rfl
      have h2 : (part e ys (i * 1)).run P w = .ok (.int (κ i) (g i)) w := by
        simp only [part, Sem.run_bind, hag, Result.andThen_ok, Bool.false_eq_true, if_false, Nat.mul_one, hy i (hls i (by simp))]; rfl
      have h3 := run_equalIn_int (P := P) w d e (κ i) k' (f i) (g i) hk
      rw [List.forIn_cons]
      simp only [Sem.run_bind, h1, h2, h3, Result.andThen_ok, List.all_cons]
      by_cases hb : (f i == g i) = true
      · simp only [hb, Bool.not_true, Bool.false_eq_true, if_false, Sem.run_pure, Result.andThen_ok, Bool.true_and]
        exact ih fun j hj => hls j (by simp [hj])
      · have hb' : (f i == g i) = false := by simpa using hb
        simp only [hb', Bool.not_false, if_true, Sem.run_pure, Result.andThen_ok, Bool.false_and, Bool.false_eq_true, if_false]
  have := loop (List.range n) (by simp)
  have hr : List.range' [:n].start [:n].size [:n].step = List.range n := by simp [Std.Legacy.Range.size, List.range_eq_range']
  rw [hr, this]
  simp only [Result.andThen_ok]
  cases (List.range n).all fun i => f i == g i <;> rfl
theorem eqR_cells {xs ys : List VV} {b : Bool} (h : eqR xs ys = some b) : ∃ (κ : Nat → IntKind) (f g : Nat → Int), (∀ i, i < VV.ws xs → (VV.cellss id xs)[i]? = some (.int (κ i) (f i)) ∧ (VV.cellss id ys)[i]? = some (.int (κ i) (g i))) ∧
    b = (List.range (VV.ws xs)).all (fun i => f i == g i) ∧ VV.ws ys = VV.ws xs := by
  induction xs generalizing ys b with
  | nil =>
    unfold eqR at h
    split at h
    · exact ⟨fun _ => .u8, fun _ => 0, fun _ => 0, fun i hi => absurd hi (Nat.not_lt_zero i), by simpa [VV.ws] using h.symm, rfl⟩
    · exact absurd (by assumption : ([] : List VV) = _ :: _) (by simp)
    · exact absurd (by assumption : ([] : List VV) = _ :: _) (by simp)
    · cases h
  | cons x xs ih =>
    unfold eqR at h
    split at h
    · exact absurd (by assumption : _ :: _ = ([] : List VV)) (by simp)
    · rename_i k n l xs' k' n' m ys heq
      simp only [List.cons.injEq] at heq
      obtain ⟨rfl, rfl⟩ := heq
      split at h
      · rename_i hk
        obtain ⟨rfl, rfl⟩ := hk
        obtain ⟨b', h1, h2⟩ := Option.map_eq_some_iff.1 h
        obtain ⟨κ, f, g, e1, e2, e3⟩ := ih h1
        have len : ∀ l : List Int, ((VV.ints k n l).cells id).length = n := fun l => by simp [VV.cells]
        refine ⟨fun i => if i < n then k else κ (i - n), fun i => if i < n then l.getD i 0 else f (i - n), fun i => if i < n then m.getD i 0 else g (i - n), fun i hi => ?_, ?_, by simp only [VV.ws, VV.w, e3]⟩
        · simp only [VV.cellss]
          by_cases hin : i < n
          · rw [List.getElem?_append_left (by rw [len]; exact hin), List.getElem?_append_left (by rw [len]; exact hin)]
            simp [VV.cells, hin, List.getD]
          · rw [List.getElem?_append_right (by rw [len]; omega), List.getElem?_append_right (by rw [len]; omega), len, len]
            simp only [hin, if_false]
            exact e1 (i - n) (by simp only [VV.ws, VV.w] at hi; omega)
        · rw [← h2, e2]
          simp only [eqL, VV.ws, VV.w]
          rw [Bool.eq_iff_iff]
          simp only [Bool.and_eq_true, List.all_eq_true, List.mem_range, beq_iff_eq]
          constructor
          · rintro ⟨g1, g2⟩ i hi
            by_cases hin : i < n
            · simp only [hin, if_true]; exact g1 i hin
            · simp only [hin, if_false]; exact g2 (i - n) (by omega)
          · intro g1
            refine ⟨fun i hi => by have := g1 i (by omega); simpa only [hi, if_true] using this, fun i hi => ?_⟩
            have := g1 (i + n) (by omega)
            simpa [show ¬ i + n < n by omega] using this
      · cases h
    · rename_i k x' xs' k' y' ys heq
      simp only [List.cons.injEq] at heq
      obtain ⟨rfl, rfl⟩ := heq
      split at h
      · rename_i hk
        subst hk
        obtain ⟨b', h1, h2⟩ := Option.map_eq_some_iff.1 h
        obtain ⟨κ, f, g, e1, e2, e3⟩ := ih h1
        refine ⟨fun i => if i = 0 then k else κ (i - 1), fun i => if i = 0 then x' else f (i - 1), fun i => if i = 0 then y' else g (i - 1), fun i hi => ?_, ?_, by simp only [VV.ws, VV.w, e3]⟩
        · simp only [VV.cellss, VV.cells, List.cons_append, List.nil_append]
          cases i with
          | zero => simp
          | succ i =>
            simp only [List.getElem?_cons_succ, Nat.add_one_sub_one, Nat.succ_ne_zero, if_false]
            exact e1 i (by simp only [VV.ws, VV.w] at hi; omega)
        · rw [← h2, e2]
          simp only [VV.ws, VV.w]
          rw [Bool.eq_iff_iff]
          simp only [Bool.and_eq_true, List.all_eq_true, List.mem_range, beq_iff_eq]
          constructor
          · rintro ⟨g1, g2⟩ i hi
            by_cases hin : i = 0
            · simp only [hin, if_true]; exact g1
            · simp only [hin, if_false]; exact g2 (i - 1) (by omega)
          · intro g1
            refine ⟨by simpa using g1 0 (by omega), fun i hi => ?_⟩
            have := g1 (i + 1) (by omega)
            simpa using this
      · cases h
    · cases h
theorem eqs_arr {t e : TypeId} {n : Nat} (hu : P.underlying t = some (.array n e)) (hs : (P.info? e).map (·.size) = some 1) (hk : ∃ k, P.underlying e = some (.int k)) (hg : P.eqGuardType P.depth t = false) :
    ∀ (w : World) xs ys b, VV.ws xs = n → eqR xs ys = some b → (Op.equal t (.agg (VV.cellss id xs).toArray) (.agg (VV.cellss id ys).toArray)).run P w = .ok b w ∧ P.eqGuardType P.depth t = false := by
  intro w xs ys b hw h
  obtain ⟨κ, f, g, e1, e2, _⟩ := eqR_cells h
  refine ⟨?_, hg⟩
  rw [hw] at e1 e2
  rw [e2]
  exact run_equalIn_arr w 9998 t e n _ _ hu hs hk κ f g (fun i hi => by simpa using (e1 i hi).1) (fun i hi => by simpa using (e1 i hi).2)
def fieldsB (P : Program) : List Field → Nat → Option Nat
  | [], off => some off
  | f :: fs, off => if f.name ≠ "_" ∧ f.offset = off then match P.underlying f.type with
      | some (.int _) => fieldsB P fs (off + 1)
      | some (.array n e) => match P.underlying e with
        | some (.int _) => if (P.info? e).map (·.size) = some 1 ∧ (P.info? f.type).map (·.size) = some n then fieldsB P fs (off + n) else none
        | _ => none
      | _ => none
    else none
theorem run_part_one (w : World) {t : TypeId} {k : IntKind} (ht : P.underlying t = some (.int k)) {xs : Array Value} {off : Nat} {v : Value} (hx : xs[off]? = some v) : (part t xs off).run P w = .ok v w := by
  simp [part, isAgg, run_underlying ht, hx]
theorem run_part_arr (w : World) {t e : TypeId} {n : Nat} (ht : P.underlying t = some (.array n e)) (hs : (P.info? t).map (·.size) = some n) (xs : Array Value) (off : Nat) : (part t xs off).run P w = .ok (.agg (xs.extract off (off + n))) w := by
  cases hq : P.info? t with
  | none => simp [hq] at hs
  | some q =>
    simp [hq] at hs
    simp [part, isAgg, run_underlying ht, sizeOf, typeInfo, hq, hs]
theorem run_eqFields (w : World) (d : Nat) (xs ys : Array Value) (κ : Nat → IntKind) (f g : Nat → Int) (N : Nat) (hx : ∀ i, i < N → xs[i]? = some (.int (κ i) (f i))) (hy : ∀ i, i < N → ys[i]? = some (.int (κ i) (g i))) :
    ∀ (fs : List Field) (off e : Nat), fieldsB P fs off = some e → e ≤ N → off ≤ e ∧ (Op.eqFields (d + 2) xs ys fs).run P w = .ok ((List.range (e - off)).all fun i => f (off + i) == g (off + i)) w := by
  intro fs
  induction fs with
  | nil =>
    intro off e h _
    simp only [fieldsB, Option.some.injEq] at h
    subst h
    exact ⟨Nat.le_refl _, by simp [Op.eqFields]⟩
  | cons fl fs ih =>
    intro off e h he
    simp only [fieldsB] at h
    split at h
    · rename_i hc
      obtain ⟨hn, ho⟩ := hc
      have join : ∀ n m, (List.range (n + m)).all (fun i => f (off + i) == g (off + i)) = ((List.range n).all (fun i => f (off + i) == g (off + i)) && (List.range m).all fun i => f (off + n + i) == g (off + n + i)) := by
        intro n m
        rw [List.range_add, List.all_append, List.all_map]
        congr 2
        funext i
        simp [Function.comp, Nat.add_assoc]
      split at h
      · rename_i k hu
        obtain ⟨h1, h2⟩ := ih (off + 1) e h he
        refine ⟨by omega, ?_⟩
        have e1 := run_part_one (P := P) w hu (hx off (by omega))
        have e2 := run_part_one (P := P) w hu (hy off (by omega))
        have e3 := run_equalIn_int (P := P) w (d + 1) fl.type (κ off) k (f off) (g off) hu
        have hj := join 1 (e - (off + 1))
        rw [show 1 + (e - (off + 1)) = e - off by omega] at hj
        rw [hj]
        simp only [Op.eqFields, hn, ne_eq, not_false_eq_true, if_true, Sem.run_bind, ho, e1, e2, e3, Result.andThen_ok]
        by_cases hb : (f off == g off) = true
        · simp only [hb, Bool.not_true, Bool.false_eq_true, if_false, h2]
          simp [hb]
        · have hb' : (f off == g off) = false := by simpa using hb
          simp only [hb', Bool.not_false, if_true, Sem.run_pure]
          simp [hb']
      · rename_i n el hu
        split at h
        · rename_i k hel
          split at h
          · rename_i hsz
            obtain ⟨h1, h2⟩ := ih (off + n) e h he
            refine ⟨by omega, ?_⟩
            have e1 := run_part_arr (P := P) w hu hsz.2 xs off
            have e2 := run_part_arr (P := P) w hu hsz.2 ys off
            have e3 := run_equalIn_arr (P := P) w d fl.type el n (xs.extract off (off + n)) (ys.extract off (off + n)) hu hsz.1 ⟨k, hel⟩ (fun i => κ (off + i)) (fun i => f (off + i)) (fun i => g (off + i))
              (fun i hi => by rw [Array.getElem?_extract, if_pos (by have := (Array.getElem?_eq_some_iff.1 (hx (off + i) (by omega))).1; omega)]; exact hx _ (by omega))
              (fun i hi => by rw [Array.getElem?_extract, if_pos (by have := (Array.getElem?_eq_some_iff.1 (hy (off + i) (by omega))).1; omega)]; exact hy _ (by omega))
            have hj := join n (e - (off + n))
            rw [show n + (e - (off + n)) = e - off by omega] at hj
            rw [hj]
            simp only [Op.eqFields, hn, ne_eq, not_false_eq_true, if_true, Sem.run_bind, ho, e1, e2, e3, Result.andThen_ok]
            by_cases hb : ((List.range n).all fun i => f (off + i) == g (off + i)) = true
            · simp only [hb, Bool.not_true, Bool.false_eq_true, if_false, h2, Bool.true_and]
            · have hb' : ((List.range n).all fun i => f (off + i) == g (off + i)) = false := by simpa using hb
              simp only [hb', Bool.not_false, if_true, Sem.run_pure, Bool.false_and]
          · cases h
        · cases h
      · cases h
    · cases h
theorem eqs_struct {t : TypeId} {n : Nat} (hu : P.underlying t = some (.struct (P.fieldsOf t))) (hp : P.stoodInHeld t = false) (hf : fieldsB P (P.fieldsOf t).toList 0 = some n) (hg : P.eqGuardType P.depth t = false) :
    ∀ (w : World) xs ys b, VV.ws xs = n → eqR xs ys = some b → (Op.equal t (.agg (VV.cellss id xs).toArray) (.agg (VV.cellss id ys).toArray)).run P w = .ok b w ∧ P.eqGuardType P.depth t = false := by
  intro w xs ys b hw h
  obtain ⟨κ, f, g, e1, e2, _⟩ := eqR_cells h
  refine ⟨?_, hg⟩
  rw [hw] at e1 e2
  rw [e2]
  show (Op.equalIn (9999 + 1) t _ _).run P w = _
  rw [run_equalIn_struct w 9999 t _ _ hu hp]
  have := (run_eqFields (P := P) w 9997 (VV.cellss id xs).toArray (VV.cellss id ys).toArray κ f g n (fun i hi => by simpa using (e1 i hi).1) (fun i hi => by simpa using (e1 i hi).2) _ 0 n hf (Nat.le_refl _)).2
  rw [this]
  simp
end
abbrev Entry := ∀ α : Type, List VV → List (Nat × Blk) → Nat → (VV → ME → Option α) → Option α
def EntryOK (P : Program) (f : FuncId) (e : Entry) : Prop :=
  ∀ (α : Type) vs M n (k : VV → ME → Option α) r, e α vs M n k = some r → ∃ v me, k v me = some r ∧ CallOK P f vs M n v me
def tabSp : List (Nat × Entry) → Spec
  | [], _, _, _, _, _, _ => none
  | (g, e) :: l, α, f, vs, M, n, k => bif Nat.beq g f then e α vs M n k else tabSp l α f vs M n k
theorem tab_ok {P : Program} {tab : List (Nat × Entry)} (h : ∀ p ∈ tab, EntryOK P p.1 p.2) : SpecOK P (tabSp tab) := by
  induction tab with
  | nil => intro α f vs M n k r h; simp [tabSp] at h
  | cons p l ih =>
    obtain ⟨g, e⟩ := p
    intro α f vs M n k r hr
    simp only [tabSp] at hr
    cases hb : Nat.beq g f with
    | true =>
      have : g = f := by simpa using hb
      subst this
      simp only [hb, cond_true] at hr
      exact h (g, e) (by simp) α vs M n k r hr
    | false =>
      simp only [hb, cond_false] at hr
      exact ih (fun p hp => h p (by simp [hp])) α f vs M n k r hr
theorem tab_nil {P : Program} : ∀ p ∈ ([] : List (Nat × Entry)), EntryOK P p.1 p.2 := by simp
theorem tab_cons {P : Program} {f : Nat} {e : Entry} {l : List (Nat × Entry)} (h : EntryOK P f e) (hl : ∀ p ∈ l, EntryOK P p.1 p.2) : ∀ p ∈ (f, e) :: l, EntryOK P p.1 p.2 := by
  intro p hp
  rcases List.mem_cons.1 hp with rfl | hp
  · exact h
  · exact hl p hp
def outR (ord : List Nat) (m n i : Nat) : Nat := bif Nat.blt i m then ord.getD i 0 else n + (i - m)
def hasM (M : List (Nat × Blk)) : List Nat → List Nat
  | [] => []
  | b :: l => match getA M b with
    | some _ => b :: hasM M l
    | none => hasM M l
theorem hasM_iff {M : List (Nat × Blk)} {l : List Nat} {b : Nat} : b ∈ hasM M l ↔ b ∈ l ∧ (getA M b).isSome := by
  induction l with
  | nil => simp [hasM]
  | cons a l ih =>
    simp only [hasM]
    cases hx : getA M a with
    | none =>
      simp only [ih, List.mem_cons]
      constructor
      · rintro ⟨h1, h2⟩; exact ⟨.inr h1, h2⟩
      · rintro ⟨rfl | h1, h2⟩
        · rw [hx] at h2; cases h2
        · exact ⟨h1, h2⟩
    | some x =>
      simp only [List.mem_cons, ih]
      constructor
      · rintro (rfl | ⟨h1, h2⟩)
        · exact ⟨.inl rfl, by simp [hx]⟩
        · exact ⟨.inr h1, h2⟩
      · rintro ⟨rfl | h1, h2⟩
        · exact .inl rfl
        · exact .inr ⟨h1, h2⟩
def renM (σ : Nat → Nat) : List (Nat × Blk) → List (Nat × Blk)
  | [] => []
  | p :: l => (σ p.1, renB σ p.2) :: renM σ l
theorem renM_get {σ : Nat → Nat} {M : List (Nat × Blk)} {b : Nat} {y : Blk} (h : getA (renM σ M) b = some y) : ∃ j x, getA M j = some x ∧ b = σ j ∧ y = renB σ x := by
  induction M with
  | nil => simp [renM, getA] at h
  | cons q M ih =>
    obtain ⟨a, x⟩ := q
    simp only [renM, getA] at h
    cases hb : Nat.beq (σ a) b with
    | true =>
      have : σ a = b := by simpa using hb
      simp [hb] at h
      exact ⟨a, x, by simp [getA], this.symm, h.symm⟩
    | false =>
      simp only [hb, cond_false] at h
      obtain ⟨j, x', h1, h2, h3⟩ := ih h
      refine ⟨j, x', ?_, h2, h3⟩
      have : Nat.beq a j = false := by
        rw [← Bool.not_eq_true, Nat.beq_eq]
        intro e; subst e
        rw [← h2] at hb; simp at hb
      simp [getA, this, h1]
def roAt (M : List (Nat × Blk)) (b : Nat) : Bool := match getA M b with
  | some x => isRo x.2.2
  | none => false
def noRo (M0 : List (Nat × Blk)) : List (Nat × Blk) → List (Nat × Blk)
  | [] => []
  | p :: l => bif roAt M0 p.1 then noRo M0 l else p :: noRo M0 l
theorem getA_noRo (M0 l : List (Nat × Blk)) (b : Nat) : getA (noRo M0 l) b = bif roAt M0 b then none else getA l b := by
  induction l with
  | nil => simp only [noRo, getA]; cases roAt M0 b <;> rfl
  | cons p l ih =>
    obtain ⟨a, x⟩ := p
    simp only [noRo]
    cases hb : Nat.beq a b with
    | true =>
      have : a = b := by simpa using hb
      subst this
      cases hr : roAt M0 a with
      | true => simp only [cond_true]; rw [ih, hr]; rfl
      | false => simp [getA]
    | false =>
      cases hr : roAt M0 a with
      | true => simp only [cond_true, ih, getA, hb, cond_false]
      | false => simp only [cond_false, getA, hb, ih]
theorem renM_noRo_get {σ : Nat → Nat} {M : List (Nat × Blk)} {b : Nat} {y : Blk} (h : getA (renM σ (noRo M M)) b = some y) : ∃ j x, getA M j = some x ∧ isRo x.2.2 = false ∧ b = σ j ∧ y = renB σ x := by
  obtain ⟨j, x, h1, h2, h3⟩ := renM_get h
  rw [getA_noRo] at h1
  cases hr : roAt M j with
  | true => rw [hr] at h1; cases h1
  | false =>
    rw [hr] at h1
    simp only [cond_false] at h1
    refine ⟨j, x, h1, ?_, h2, h3⟩
    simpa [roAt, h1] using hr
def ownL (M : List (Nat × Blk)) : List Nat → List Nat
  | [] => []
  | b :: l => bif roAt M b then ownL M l else b :: ownL M l
theorem ownL_mem {M : List (Nat × Blk)} {l : List Nat} {b : Nat} (h : b ∈ l) (hr : roAt M b = false) : b ∈ ownL M l := by
  induction l with
  | nil => cases h
  | cons a l ih =>
    simp only [ownL]
    rcases List.mem_cons.1 h with rfl | h
    · rw [hr]; exact List.mem_cons_self ..
    · cases roAt M a with
      | true => exact ih h
      | false => exact List.mem_cons_of_mem _ (ih h)
def keysIn (up : List (Nat × Blk)) : List Nat → Bool
  | [] => true
  | b :: l => (getA up b).isSome && keysIn up l
theorem keysIn_spec {up : List (Nat × Blk)} {l : List Nat} (h : keysIn up l = true) : ∀ b ∈ l, (getA up b).isSome := by
  induction l with
  | nil => simp
  | cons a l ih =>
    simp only [keysIn, Bool.and_eq_true] at h
    intro b hb
    rcases List.mem_cons.1 hb with rfl | hb
    · exact h.1
    · exact ih h.2 b hb
def oldIn (rd ord : List Nat) (m : Nat) : List (Nat × Blk) → Bool
  | [] => true
  | p :: l => (bif Nat.blt p.1 m then elemN (ord.getD p.1 0) rd else true) && oldIn rd ord m l
theorem oldIn_spec {rd ord : List Nat} {m : Nat} {M : List (Nat × Blk)} (h : oldIn rd ord m M = true) {j : Nat} {x : Blk} (hj : getA M j = some x) (hm : j < m) : ord.getD j 0 ∈ rd := by
  have hmem := getA_mem hj
  clear hj
  induction M with
  | nil => cases hmem
  | cons q M ih =>
    simp only [oldIn, Bool.and_eq_true] at h
    rcases List.mem_cons.1 hmem with rfl | hmem
    · have := h.1
      have hb : Nat.blt j m = true := by simpa [Nat.blt_eq] using hm
      simp only [hb, cond_true] at this
      exact elemN_iff.1 this
    · exact ih h.2 hmem
def memsM : List (Nat × Blk) → Bool
  | [] => true
  | p :: l => VV.mems p.2.1 && memsM l
theorem memsM_spec {M : List (Nat × Blk)} (h : memsM M = true) {j : Nat} {x : Blk} (hj : getA M j = some x) : VV.mems x.1 = true := by
  have hmem := getA_mem hj
  clear hj
  induction M with
  | nil => cases hmem
  | cons q M ih =>
    simp only [memsM, Bool.and_eq_true] at h
    rcases List.mem_cons.1 hmem with rfl | hmem
    · exact h.1
    · exact ih h.2 hmem
def finE {α : Type} (M : List (Nat × Blk)) (ord : List Nat) (m n : Nat) (k : VV → ME → Option α) (t : VS) : Option α := match t.L with
  | [(0, v)] => bif keysIn (renM (outR ord m n) (noRo t.M t.M)) (ownL M (hasM M ord)) && oldIn (hasM M ord) ord m t.M && memsM t.M then
      k (v.ren (outR ord m n)) { rd := hasM M ord, up := renM (outR ord m n) (noRo t.M t.M), nn := t.n - m } else none
  | _ => none
def dv1 {Y : Type} (o : Y → VS) : ∀ α : Type, Y → (VS → Option α) → Option α := fun _ y k => k (o y)
def dvA {Y Z : Type} (d1 : ∀ α : Type, Y → (VS → Option α) → Option α) (d2 : ∀ α : Type, Z → (VS → Option α) → Option α) : ∀ α : Type, Y ⊕ Z → (VS → Option α) → Option α :=
  fun α y k => alt (fun a => d1 α a k) (fun b => d2 α b k) y
theorem dvA_ok {Y Z : Type} {d1 : ∀ α : Type, Y → (VS → Option α) → Option α} {d2 : ∀ α : Type, Z → (VS → Option α) → Option α} {o1 : Y → VS} {o2 : Z → VS}
    (h1 : ∀ α y k, d1 α y k = k (o1 y)) (h2 : ∀ α y k, d2 α y k = k (o2 y)) (α : Type) (y : Y ⊕ Z) (k : VS → Option α) : dvA d1 d2 α y k = k (alt o1 o2 y) := by
  cases y with
  | inl y => exact h1 α y k
  | inr y => exact h2 α y k
def genE {X Y : Type} (m : Nat) (inA : VS → Option X) (F : X → Option Y) (des : ∀ α : Type, Y → (VS → Option α) → Option α) : Entry :=
  fun α vs M n k => genW α vs M n k (orderOf 0 M (VV.idss vs))
where
  genW (α : Type) (vs : List VV) (M : List (Nat × Blk)) (n : Nat) (k : VV → ME → Option α) (ord : List Nat) : Option α :=
    bif Nat.beq ord.length m then (canon.canonW 0 (initL 0 vs) M ord).bind fun s => (inA s).bind fun x => (F x).bind fun y => des α y (finE M ord m n k) else none
theorem initL_ren (τ : Nat → Nat) (i : Nat) (vs : List VV) : renL τ (initL i vs) = initL i (vs.map (VV.ren τ)) := by
  induction vs generalizing i with
  | nil => rfl
  | cons v vs ih => simp only [initL, renL, List.map_cons, ih]
theorem initL_inj {i : Nat} {vs us : List VV} (h : initL i vs = initL i us) : vs = us := by
  induction vs generalizing i us with
  | nil => cases us with
    | nil => rfl
    | cons u us => simp [initL] at h
  | cons v vs ih =>
    cases us with
    | nil => simp [initL] at h
    | cons u us =>
      simp only [initL, List.cons.injEq, Prod.mk.injEq, true_and] at h
      rw [h.1, ih h.2]
theorem initL_mem {i : Nat} {vs : List VV} {u : VV} (h : u ∈ vs) : ∃ t, (t, u) ∈ initL i vs := by
  induction vs generalizing i with
  | nil => cases h
  | cons v vs ih =>
    rcases List.mem_cons.1 h with rfl | h
    · exact ⟨i, by simp [initL]⟩
    · obtain ⟨t, ht⟩ := ih (i := i + 1) h
      exact ⟨t, by simp [initL, ht]⟩
theorem isRo_ren (σ : Nat → Nat) (x : Blk) : isRo (renB σ x).2.2 = isRo x.2.2 := by
  obtain ⟨rs, t, kd⟩ := x
  cases kd <;> rfl
theorem own_not_ro {ρ : Nat → Nat} {M : List (Nat × Blk)} {d : Nat} {y : Blk} {k : Nat} (h : getA M d = some y) (ho : own ρ d y k) : roAt M d = false := by
  unfold roAt
  rw [h]
  obtain ⟨rs, t, kd⟩ := y
  cases kd <;> first | rfl | exact absurd ho (by simp [own])
theorem gen_ok {P : Program} {ty : TypeId → Option TI} {sp : Spec} {lp : Nat → Option (Hint × Summ)} (hmix : P.follows .mixedOrders = true) (hty : TyAll P ty) (hsp : SpecOK P sp)
    {f : FuncId} {fn : Func} {c : Code} (hf : P.funcs[f]? = some fn) (hb : fn.body = some c) (hname : (fn.name == "runtime.NumGoroutine") = false) {m : Nat} (hl : LoopsOK P fn.ntmps m lp c)
    {X Y : Type} {fuel : Nat} {av : X → List VV} {bl : X → List (Nat × Blk)} {inA : VS → Option X} {F : X → Option Y} {inR : VS → Option Y} {out : Y → VS} {des : ∀ α : Type, Y → (VS → Option α) → Option α}
    (hA : ∀ s x, inA s = some x → s = ⟨initL 0 (av x), bl x, m⟩) (hS : ∀ x, (av x).length ≤ fn.ntmps) (hR : ∀ s y, inR s = some y → s = out y) (hdes : ∀ α y k, des α y k = k (out y))
    (hF : ∀ x, F x = xrun ty sp fn.ntmps m lp fuel c ⟨initL 0 (av x), bl x, m⟩ (contF ty m fn.results.toList inR)) : EntryOK P f (genE m inA F des) := by
  intro α vs M n k r h
  simp only [genE, genE.genW] at h
  generalize hord : orderOf 0 M (VV.idss vs) = ord at h
  cases hlen : Nat.beq ord.length m with
  | false => simp [hlen] at h
  | true =>
  have hlen' : ord.length = m := by simpa using hlen
  simp only [hlen, cond_true] at h
  obtain ⟨s, hs, h⟩ := Option.bind_eq_some_iff.1 h
  obtain ⟨x, hx, h⟩ := Option.bind_eq_some_iff.1 h
  obtain ⟨y, hy, h⟩ := Option.bind_eq_some_iff.1 h
  rw [hdes] at h
  have hren := canonW_spec hs
  have hsx := hA s x hx
  rw [hF] at hy
  obtain ⟨t, ht1, hmt, hstat, ht2⟩ := fn_calls hmix hty hsp hf hb hl (hS x) hy
  have hty' := hR t y ht1
  rw [← hty'] at h

  unfold finE at h
  split at h
  case h_2 => cases h
  rename_i v hL
  have hv : getA t.L 0 = some v := by rw [hL]; simp [getA]
  obtain ⟨hok, hvi, hcall⟩ := ht2 v hv
  cases hkeys : (keysIn (renM (outR ord m n) (noRo t.M t.M)) (ownL M (hasM M ord)) && oldIn (hasM M ord) ord m t.M && memsM t.M) with
  | false => simp [hkeys] at h
  | true =>
  simp only [hkeys, cond_true] at h
  simp only [Bool.and_eq_true] at hkeys
  obtain ⟨⟨hk1, hk2⟩, hk3⟩ := hkeys

  obtain ⟨τ, hτ1, hτ2⟩ := hren.Lre
  have hav : av x = vs.map (VV.ren τ) := by
    rw [hsx, initL_ren] at hτ1
    exact initL_inj hτ1
  have hvids : ∀ u ∈ vs, ∀ i ∈ u.ids, ord.getD (τ i) 0 = i ∧ τ i < ord.length := fun u hu i hi => by
    obtain ⟨t, ht⟩ := initL_mem (i := 0) hu
    exact hτ2 (t, u) ht i hi
  have hM : s.M = bl x := by rw [hsx]
  refine ⟨_, _, h, ⟨fn, hf, hname, by rw [hb]; rfl⟩, fun b hb => (hasM_iff.1 hb).2, fun ρ p w hu hmm hinj hpn hgd => ?_⟩
  have hordp : ∀ i ∈ ord, p i := by
    rw [← hord]
    refine reach_p (fun j hj => ?_) fun b hb x hx j hj => ?_
    · rcases insNew_mem.1 hj with hj | hj
      · simp at hj
      · obtain ⟨u, hu1, hu2⟩ := mem_idss.1 hj
        exact (hu u hu1).2 j hu2
    · refine (hmm b (hasM_iff.2 ⟨?_, by simp [hx]⟩) x hx).2.2 j hj
      rw [← hord]; exact hb
  have hσp : ∀ i, i < m → p (ord.getD i 0) := fun i hi => hordp _ (by
    rw [List.getD_eq_getElem?_getD, List.getElem?_eq_getElem (by omega)]; exact List.getElem_mem _)
  have hRp : ∀ j, j < t.n → p (outR ord m n j) ∨ (n ≤ outR ord m n j ∧ outR ord m n j < n + (t.n - m)) := by
    intro j hj
    unfold outR
    cases hb : Nat.blt j m with
    | true => simp only [cond_true]; exact .inl (hσp j (by simpa [Nat.blt_eq] using hb))
    | false =>
      simp only [cond_false]
      have : ¬ j < m := by intro hlt; have : Nat.blt j m = true := by simpa [Nat.blt_eq] using hlt
                           rw [hb] at this; cases this
      exact .inr ⟨by omega, by omega⟩
  have hkey := hcall (fun i => ρ (ord.getD i 0)) w (fun u hu' => by
      rw [hav] at hu'
      obtain ⟨u0, hu0, rfl⟩ := List.mem_map.1 hu'
      refine ⟨okL_ren.2 (hu u0 hu0).1, fun i hi => ?_⟩
      rw [ids_ren] at hi
      obtain ⟨j, hj, rfl⟩ := List.mem_map.1 hi
      have := (hvids u0 hu0 j hj).2
      omega)
    (fun b z hz => by
      rw [← hM] at hz
      obtain ⟨z0, e1, e2, e3, e4⟩ := hren.M b z hz
      obtain ⟨m1, m2, _⟩ := hmm (ord.getD b 0) (hasM_iff.2 ⟨by rw [List.getD_eq_getElem?_getD, List.getElem?_eq_getElem e3]; exact List.getElem_mem _, by rw [e1]; rfl⟩) z0 e1
      subst e2
      exact ⟨Holds_ren.1 m1, by simpa [renB, mems_ren] using m2, fun i hi => by have := e4 i hi; omega, by omega⟩)
    (fun b d hbd z z' hz hz' q hq ho => by
      rw [← hM] at hz hz'
      obtain ⟨z0, e1, e2, e3, _⟩ := hren.M b z hz
      obtain ⟨z1, f1, f2, f3, _⟩ := hren.M d z' hz'
      subst e2; subst f2
      have in1 : ord.getD b 0 ∈ hasM M ord := hasM_iff.2 ⟨by rw [List.getD_eq_getElem?_getD, List.getElem?_eq_getElem e3]; exact List.getElem_mem _, by rw [e1]; rfl⟩
      have in2 : ord.getD d 0 ∈ hasM M ord := hasM_iff.2 ⟨by rw [List.getD_eq_getElem?_getD, List.getElem?_eq_getElem f3]; exact List.getElem_mem _, by rw [f1]; rfl⟩
      exact hinj _ _ in1 in2 (fun e => hbd (hren.inj b d e3 f3 e)) _ _ e1 f1 q (own_ren.2 hq) (occ_ren.2 ho))
    ⟨hgd.1, fun b z hz q hq g hg => by
      rw [← hM] at hz
      obtain ⟨z0, e1, e2, e3, _⟩ := hren.M b z hz
      subst e2
      exact hgd.2 (ord.getD b 0) (hasM_iff.2 ⟨by rw [List.getD_eq_getElem?_getD, List.getElem?_eq_getElem e3]; exact List.getElem_mem _, by rw [e1]; rfl⟩) _ e1 q (own_ren.2 hq) g hg⟩
  have hvs' : ((av x).map (VV.den fun i => ρ (ord.getD i 0))).toArray = (vs.map (VV.den ρ)).toArray := by
    rw [hav, List.map_map]
    congr 1
    refine List.map_congr_left fun u hu' => ?_
    rw [Function.comp, den_ren]
    refine den_congr u fun i hi => ?_
    rw [(hvids u hu' i hi).1]
  rw [hvs'] at hkey
  refine ⟨⟨okL_ren.2 hok, fun i hi => ?_, fun b blk hg => ?_, fun b hb => hordp b (hasM_iff.1 hb).1⟩, hkey.mono fun e w' ⟨ρ1, he, hleft⟩ => ?_⟩
  · rw [ids_ren] at hi
    obtain ⟨j, hj, rfl⟩ := List.mem_map.1 hi
    exact hRp j (hvi j hj)
  · obtain ⟨j, z, e1, _, rfl, rfl⟩ := renM_noRo_get hg
    obtain ⟨j1, j2⟩ := hstat j z e1
    refine ⟨?_, by simpa [renB, mems_ren] using memsM_spec hk3 e1, fun i hi => ?_⟩
    · by_cases hjm : j < m
      · left
        have hb : Nat.blt j m = true := by simpa [Nat.blt_eq] using hjm
        simp only [outR, hb, cond_true]
        exact oldIn_spec hk2 e1 hjm
      · right
        have hb : Nat.blt j m = false := by
          cases hb : Nat.blt j m with
          | false => rfl
          | true => exact absurd (by simpa [Nat.blt_eq] using hb) hjm
        simp only [outR, hb, cond_false]
        exact ⟨by omega, by omega⟩
    · rw [bids_ren] at hi
      obtain ⟨q, hq, rfl⟩ := List.mem_map.1 hi
      exact hRp q (j2 q hq)
  · let ρ' : Nat → Nat := fun j => if n ≤ j ∧ j < n + (t.n - m) then ρ1 (m + (j - n)) else ρ j
    have hag : ∀ i, ¬ (n ≤ i ∧ i < n + (t.n - m)) → ρ' i = ρ i := fun i hi => if_neg hi
    have hpρ : ∀ i, p i → ρ' i = ρ i := fun i hi => hag i (hpn i hi)
    have hR' : ∀ j, j < t.n → ρ' (outR ord m n j) = ρ1 j := by
      intro j hj
      unfold outR
      cases hb : Nat.blt j m with
      | true =>
        have hjm : j < m := by simpa [Nat.blt_eq] using hb
        simp only [cond_true]
        rw [hpρ _ (hσp j hjm), hleft.base j hjm]
      | false =>
        have hjm : ¬ j < m := by intro hlt; have : Nat.blt j m = true := by simpa [Nat.blt_eq] using hlt
                                 rw [hb] at this; cases this
        simp only [cond_false]
        show (if n ≤ n + (j - m) ∧ n + (j - m) < n + (t.n - m) then ρ1 (m + (n + (j - m) - n)) else ρ (n + (j - m))) = ρ1 j
        rw [if_pos ⟨by omega, by omega⟩]
        congr 1; omega
    have hown : ∀ j x, getA t.M j = some x → ∀ k, own ρ' (outR ord m n j) (renB (outR ord m n) x) k ↔ own ρ1 j x k := fun j x hx k => by
      obtain ⟨j1, j2⟩ := hstat j x hx
      rw [own_ren]
      exact own_congr (hR' j j1) fun i hi => hR' i (j2 i hi)
    have hocc : ∀ j x, getA t.M j = some x → ∀ k, occ ρ' (outR ord m n j) (renB (outR ord m n) x) k ↔ occ ρ1 j x k := fun j x hx k => by
      obtain ⟨j1, j2⟩ := hstat j x hx
      rw [occ_ren]
      exact occ_congr (hR' j j1) fun i hi => hR' i (j2 i hi)

    have hin : ∀ d z, getA (bl x) d = some z → ∀ k, own (fun i => ρ (ord.getD i 0)) d z k → ord.getD d 0 ∈ hasM M ord ∧ ∃ z0, getA M (ord.getD d 0) = some z0 ∧ own ρ' (ord.getD d 0) z0 k := by
      intro d z hz k hk
      rw [← hM] at hz
      obtain ⟨z0, e1, e2, e3, e4⟩ := hren.M d z hz
      have hin : ord.getD d 0 ∈ ord := by rw [List.getD_eq_getElem?_getD, List.getElem?_eq_getElem e3]; exact List.getElem_mem _
      have hin2 : ord.getD d 0 ∈ hasM M ord := hasM_iff.2 ⟨hin, by rw [e1]; rfl⟩
      refine ⟨hin2, z0, e1, ?_⟩
      have h3 : own ρ (ord.getD d 0) z0 k := by rw [e2]; exact own_ren.2 hk
      exact (own_congr (hpρ _ (hordp _ hin)) fun i hi => hpρ i ((hmm _ hin2 z0 e1).2.2 i hi)).2 h3
    refine ⟨ρ', ?_, hag, ⟨hleft.os, hleft.tape, hleft.output, hleft.size, fun b z hz => ?_, fun b z hz k hk => ?_, fun b d hbd z z' hz hz' k hk ho => ?_, fun k hk h1 h2 => ?_⟩⟩
    · rw [he, den_ren]
      congr 1
      exact den_congr v fun i hi => (hR' i (hvi i hi)).symm
    · obtain ⟨j, z, e1, _, rfl, rfl⟩ := renM_noRo_get hz
      obtain ⟨j1, j2⟩ := hstat j z e1
      exact Holds_ren.2 ((hleft.mm j z e1).congr (hR' j j1) (fun i hi => hR' i (j2 i hi)) fun _ _ => rfl)
    · obtain ⟨j, z, e1, e0, rfl, rfl⟩ := renM_noRo_get hz
      rcases hleft.src j z e1 k ((hown j z e1 k).1 (occ_not_ro (by rw [isRo_ren]; exact e0) hk)) with hs | ⟨d, y', hd, hdo⟩
      · exact .inl hs
      · obtain ⟨g1, z0, g2, g3⟩ := hin d y' hd k hdo
        exact .inr ⟨_, g1, z0, g2, occ_of_own g3, fun _ => g3, fun _ => keysIn_spec hk1 _ (ownL_mem g1 (own_not_ro g2 g3))⟩
    · obtain ⟨j, z, e1, _, rfl, rfl⟩ := renM_noRo_get hz
      obtain ⟨j', z', f1, _, rfl, rfl⟩ := renM_noRo_get hz'
      exact hleft.inj j j' (fun e => hbd (by rw [e])) z z' e1 f1 k ((hown j z e1 k).1 hk) ((hocc j' z' f1 k).1 ho)
    · refine hleft.kept k hk fun d y' hd hdo => ?_
      obtain ⟨g1, z0, g2, g3⟩ := hin d y' hd k hdo
      exact h2 _ g1 z0 g2 (keysIn_spec hk1 _ (ownL_mem g1 (own_not_ro g2 g3))) g3
def orE (m : Nat) {X : Type} (inA : VS → Option X) (e1 e2 : Entry) : Entry := fun α vs M n k => bif fits vs M then e1 α vs M n k else e2 α vs M n k
where
  fits (vs : List VV) (M : List (Nat × Blk)) : Bool := fitsW vs M (orderOf 0 M (VV.idss vs))
  fitsW (vs : List VV) (M : List (Nat × Blk)) (ord : List Nat) : Bool := Nat.beq ord.length m && match (canon.canonW 0 (initL 0 vs) M ord).bind inA with
    | some _ => true
    | none => false
abbrev Tab := List (Nat × TI)
theorem tyAll_of {P : Program} {tab : Tab} (h : ∀ p ∈ tab, TyOK P p.1 p.2) : TyAll P (getA tab) := fun t i ht => h (t, i) (getA_mem ht)
end Go.VM

namespace Go.VM
open Go
theorem wrap_nat (n : Nat) : IntKind.wrap .u64 (n : Int) = ((n % 18446744073709551616 : Nat) : Int) := by
  simp only [IntKind.wrap, IntKind.bits, IntKind.signed, Bool.false_and, Bool.false_eq_true, if_false]
  omega
theorem wrap_i (z : Int) (h1 : -9223372036854775808 ≤ z) (h2 : z < 9223372036854775808) : IntKind.wrap .i64 z = z := by
  simp only [IntKind.wrap, IntKind.bits, IntKind.signed, Bool.true_and]
  split
  · rename_i h; have := of_decide_eq_true h; omega
  · rename_i h; have : ¬ _ := fun h' => h (decide_eq_true h'); omega
theorem wrap_u (z : Int) (h1 : 0 ≤ z) (h2 : z < 18446744073709551616) : IntKind.wrap .u64 z = z := by
  simp only [IntKind.wrap, IntKind.bits, IntKind.signed, Bool.false_and, Bool.false_eq_true, if_false]
  omega
theorem fdiv_nat (a k : Nat) : Int.fdiv (a : Int) (2 ^ k) = ((a / 2 ^ k : Nat) : Int) := by
  rw [Int.fdiv_eq_ediv_of_nonneg _ (by exact Int.le_of_lt (Int.pow_pos (by decide)))]
  simp
theorem tdiv_nat (a m : Nat) : Int.tdiv (a : Int) (m : Int) = ((a / m : Nat) : Int) := by simp
theorem tmod_nat (a m : Nat) : Int.tmod (a : Int) (m : Int) = ((a % m : Nat) : Int) := rfl
def vec (n : Nat) (f : Nat → Nat) : List Int := (List.range n).map fun j => (f j : Int)
theorem bind_s {α β : Type} (a : α) (f : α → Option β) : (some a).bind f = f a := Eq.trans (Option.bind_some a f) (Eq.symm (Eq.symm (Eq.trans rfl rfl)))
theorem cond_t {α : Type} (a b : α) : (bif true then a else b) = a := Eq.trans (cond_true a b) (Eq.symm (Eq.symm (Eq.trans rfl rfl)))
theorem cond_f {α : Type} (a b : α) : (bif false then a else b) = b := Eq.trans (cond_false a b) (Eq.symm (Eq.symm (Eq.trans rfl rfl)))
theorem iter_for {X Y : Type} {stp : (X → Option Y) → X → Option Y} {N : Nat} (st : Nat → X) {y : Option Y} (hstep : ∀ i, i < N → ∀ rec, stp rec (st i) = rec (st (i + 1))) (hend : ∀ rec, stp rec (st N) = y) {K : Nat} (hK : N < K) :
    iter stp K (st 0) = y := by
  have : ∀ m i, i + m = N → ∀ K, m < K → iter stp K (st i) = y := by
    intro m
    induction m with
    | zero =>
      intro i hi K hK
      obtain ⟨k, rfl⟩ : ∃ k, K = k + 1 := ⟨K - 1, by omega⟩
      have : i = N := by omega
      subst this
      exact hend _
    | succ m ih =>
      intro i hi K hK
      obtain ⟨k, rfl⟩ : ∃ k, K = k + 1 := ⟨K - 1, by omega⟩
      rw [iter, hstep i (by omega)]
      exact ih (i + 1) (by omega) k (by omega)
  exact this N 0 (by omega) K hK
end Go.VM

namespace Go.VM
open Go Go.ChangeShapes Go.WideShapes Go.ChangeAt Go.RowKit
theorem flatMap_nil {H : Type} {xs : List (DataW H × List MemPlace)} (h : ∀ y ∈ xs, y.2 = []) : xs.flatMap (·.2) = [] := by
  induction xs with
  | nil => rfl
  | cons a l ih => rw [List.flatMap_cons, h a (by simp), ih fun y hy => h y (by simp [hy])]; rfl
section
variable {H : Type} {enc : TypeId × Value → H} {P : Program}
def Same (W W' : World) : Prop := W'.os = W.os ∧ W'.output = W.output ∧ W.heap.size ≤ W'.heap.size ∧ (∀ ad : Addr, ad.block < W.heap.size → W'.frozen? ad = W.frozen? ad) ∧ ∀ j, j < W.heap.size → W'.heap[j]? = W.heap[j]?
theorem Same.kept {W W' : World} (h : Same W W') (may : MemPlace → Prop) : W.keptBut W' may := by
  refine ⟨h.1, h.2.1, fun i hi => ?_⟩
  rw [h.2.2.2.2 i hi]
  cases W.heap[i]? with
  | none => rfl
  | some o => cases o with
    | cells c t fr => exact ⟨rfl, rfl, rfl, fun _ _ => rfl⟩
    | map es clock => exact .inr ⟨rfl, rfl⟩
    | _ => rfl
theorem law_calls {P : Program} {f : FuncId} {X : Type} {inA : VS → Option X} {F : X → Option Bool} {des : ∀ α : Type, Bool → (VS → Option α) → Option α} (h : EntryOK P f (genE 0 inA F des)) {vs : List VV} {x : X} (hF : F x = some true)
    (hin : ∀ F : X → Option Bool, genE 0 inA F des (VV × ME) vs [] 0 (fun v me => some (v, me)) = (F x).bind fun y => some (.bool y, {})) (hok : VV.mems vs = true) (W : World) (hg : GL W) :
    Calls P f (vs.map (VV.den id)).toArray W fun e W' => e = .returned (.bool true) ∧ Same W W' := by
  obtain ⟨v, me, h1, h2⟩ := h (VV × ME) vs [] 0 (fun v me => some (v, me)) (.bool true, {}) (by rw [hin F, hF]; rfl)
  simp only [Option.some.injEq, Prod.mk.injEq] at h1
  obtain ⟨rfl, rfl⟩ := h1
  obtain ⟨_, _, h3⟩ := h2
  obtain ⟨_, h4⟩ := h3 id (fun _ => True) W (fun u hu => ⟨okL_of_mem (mems_iff.1 hok u hu), fun i _ => trivial⟩) (fun b hb => by cases hb) (fun b c hb => by cases hb) (fun i _ hi => by simp at hi) ⟨hg, fun b hb => by cases hb⟩
  exact h4.mono fun e W' ⟨ρ', he, _, hm⟩ => by
    have hk : ∀ j, j < W.heap.size → W'.heap[j]? = W.heap[j]? := fun j hj => hm.kept j hj (fun b x hb => by simp [getA] at hb) fun d hd => by cases hd
    exact ⟨he, hm.os, hm.output, hm.size, fun ad had => frozen_kept (hk _ had), hk⟩
theorem post_same {H : Type} {enc : TypeId × Value → H} {P : Program} {f : Func} {s : ChangeSpec} {apart fresh handsOn again : Bool} {W W' : World} {args : Array Value} {v : Value} {ds gs : List (DataW H)} {before pa pv : List MemPlace}
    (hW : DataW.Whole enc P f.params.toList s.vars apart W args.toList ds gs before)
    (hres : ∀ (b : Nat) (sp : Nat → Bool) (hd : Bool), DataW.TrodAll enc P W' b sp hd f.resultTypes.toList (v.resultList f.resultTypes.size) (s.fn H (ds ++ gs)).results [])
    (hargs : ∀ sp : Nat → Bool, (∀ p ∈ before, sp p.block = true) → DataW.TrodAll enc P W' 0 sp true f.params.toList args.toList (s.fn H (ds ++ gs)).args pa)
    (hvars : ∀ sp : Nat → Bool, (∀ p ∈ before, sp p.block = true) → DataW.TrodVars enc P W' sp s.vars (s.fn H (ds ++ gs)).vars pv)
    (hps : before = pa ++ pv) (hk : W.keptBut W' (· ∈ before)) (hfz : ∀ a : Addr, a.block < W.heap.size → W'.frozen? a = W.frozen? a)
    (hok : ∀ (j : Nat) (t : TypeId) (r : Value), f.resultTypes[j]? = some t → (v.resultList f.resultTypes.size)[j]? = some r → Value.okWide P W' .any 0 t r) :
    s.post enc P f apart fresh handsOn again W args v W' := by
  have hlt : ∀ p ∈ before, p.block < W.heap.size := fun p hp => hW.lt p hp
  refine ⟨ds, gs, before, [], pa, pv, hW, hres _ _ _, hargs (fun b => decide (b < W.heap.size)) (fun p hp => by simpa using hlt p hp), hvars (fun b => decide (b < W.heap.size)) (fun p hp => by simpa using hlt p hp), World.keptBut_mono (fun p hp => ⟨hp, ?_⟩) hk, fun _ => ?_⟩
  · rw [hps, List.mem_append] at hp; exact .inr hp
  · obtain ⟨_, _, _, _, _, hz, hn⟩ := hW
    refine ⟨hok, _, _, ([] ++ pa) ++ pv, ⟨[] ++ pa, pv, trodAll_append (hargs _ (fun _ _ => rfl)) (hres _ _ _), hvars _ (fun _ _ => rfl), rfl, fun b off hp => ?_, fun ha => ?_⟩, fun p hp _ => ?_⟩
    · have hp' : MemPlace.cell b off ∈ before := by rw [hps]; simpa using hp
      rw [hfz _ (hlt _ hp')]
      exact hz b off hp'
    · have := hn ha
      rw [hps] at this
      simpa using this
    · rw [hps]; simpa using hp
theorem range_get {l : List Value} {n : Nat} (hl : l.length = n) (g : Nat → Int) (k : IntKind) (h : ∀ i, i < n → l[i]? = some (.int k (g i))) : l = (List.range n).map fun i => .int k (g i) := by
  refine List.ext_getElem? fun i => ?_
  by_cases hi : i < n
  · rw [h i hi]; simp [hi]
  · rw [List.getElem?_eq_none (by omega), List.getElem?_eq_none (by simp; omega)]
theorem trod_ints {w : World} {b : Nat} {sp : Nat → Bool} {hd : Bool} {t e : TypeId} {n : Nat} {k : IntKind} (ht : P.underlying t = some (.array n e)) (he : P.underlying e = some (.int k)) (hc : P.cellsOf e = 1) (hct : P.cellsOf t = n)
    {fuel : Nat} {cs : List Value} {x : DataW H × List MemPlace} (h : DataW.trod enc P w b sp hd fuel t cs = some x) : ∃ g : Nat → Int, (∀ i, i < n → (Lit.int k (g i)).wf = true) ∧ cs = (List.range n).map fun i => .int k (g i) := by
  obtain ⟨xs, m, _, _, hl, hx, hi⟩ := DataW.trod_array ht h
  rw [hct] at hl
  rw [hc] at hi
  have key : ∀ i, i < n → ∃ z, (Lit.int k z).wf = true ∧ cs[i]? = some (.int k z) := by
    intro i hin
    have h1 := hi i hin
    rw [List.getElem?_eq_getElem (by omega)] at h1
    obtain ⟨z, h2, _, h3⟩ := DataW.trod_int he h1
    refine ⟨z, h3, ?_⟩
    have : ((cs.drop (i * 1)).take 1)[0]? = some (.int k z) := by rw [h2]; rfl
    simpa [List.getElem?_take, List.getElem?_drop] using this
  refine ⟨fun i => if h : i < n then (key i h).choose else 0, fun i hin => ?_, range_get hl _ k fun i hin => ?_⟩
  · simp only [hin, dite_true]; exact (key i hin).choose_spec.1
  · simp only [hin, dite_true]; exact (key i hin).choose_spec.2
theorem wf_u64 {z : Int} (h : (Lit.int .u64 z).wf = true) : 0 ≤ z ∧ z < 18446744073709551616 := by
  simp [Lit.wf, IntKind.min, IntKind.max, IntKind.signed, IntKind.bits] at h
  omega
theorem list1 {α : Type} {l : List α} (h : l.length = 1) : ∃ a, l = [a] := by
  match l, h with
  | [a], _ => exact ⟨a, rfl⟩
end
end Go.VM

namespace Go.VM
open Go Go.ChangeShapes Go.WideShapes Go.ChangeAt Go.RowKit
section
variable {H : Type} {enc : TypeId × Value → H} {P : Program}
theorem cut_at (cs : List Value) (n m : Nat) : cs.drop n = (cs.drop n).take m ++ cs.drop (n + m) := by
  rw [← List.drop_drop, List.take_append_drop]
end
end Go.VM

namespace Go.VM
open Go Go.ChangeShapes Go.WideShapes Go.ChangeAt Go.RowKit
section
variable {P : Program}
theorem wf_u8 {z : Int} (h : (Lit.int .u8 z).wf = true) : 0 ≤ z ∧ z < 256 := by
  simp [Lit.wf, IntKind.min, IntKind.max, IntKind.signed, IntKind.bits] at h
  omega
end
end Go.VM

namespace Go.VM
def roomy : VV → Bool
  | .sl _ _ len cap => Nat.ble len cap
  | .sr _ _ _ _ len cap => Nat.ble len cap
  | _ => true
def fixR (k : IntKind) : List VV → List VV
  | [] => [.ints k 0 []]
  | rs => rs
def viewL (M : List (Nat × Blk)) (vs0 : List VV) : List (Nat × IntKind) → List VV → Nat → Option (Bool × List VV × List (Nat × Blk) × List Nat × Nat)
  | [], vs, n => some (true, vs, [], [], n)
  | i :: ps, vs, n => (vs0[i.1]?).bind fun v => bif isStr v then none else (srcS M v).bind fun q =>
      (viewL M vs0 ps (vs.set i.1 (.vw true n 0 q.2.2.1 (n + 1))) (n + 2)).map fun r => (q.1 && roomy v && r.1, r.2.1, (n, (fixR i.2 q.2.1, 0, .ro)) :: r.2.2.1, q.2.2.2 ++ r.2.2.2.1, r.2.2.2.2)
def hideM (M : List (Nat × Blk)) : List Nat → List (Nat × Blk) → List (Nat × Blk)
  | [], A => A
  | b :: l, A => bif roAt M b then hideM M l A else (b, ([], 0, .dead)) :: hideM M l A
def outside (n n1 : Nat) : List Nat → List Nat
  | [] => []
  | b :: l => bif Nat.ble n b && Nat.blt b n1 then outside n n1 l else b :: outside n n1 l
def clean (n n1 : Nat) (rds : List Nat) : List (Nat × Blk) → Bool
  | [] => true
  | p :: l => !(isRo p.2.2.2) && !(elemN p.1 rds) && !(Nat.ble n p.1 && Nat.blt p.1 n1) && clean n n1 rds l
def rdB (n n1 : Nat) (B : List (Nat × Blk)) : List Nat → Bool
  | [] => true
  | b :: l => (!(Nat.ble n b && Nat.blt b n1) || (getA B b).isSome) && rdB n n1 B l
def viewE (ps : List (Nat × IntKind)) (E : Entry) : Entry := fun α vs M n k =>
  (viewL M vs ps vs n).bind fun r => bif r.1 then
    E α r.2.1 (r.2.2.1 ++ hideM M r.2.2.2.1 M) r.2.2.2.2 (fun v me => bif clean n r.2.2.2.2 r.2.2.2.1 me.up && rdB n r.2.2.2.2 r.2.2.1 me.rd then
      k v { rd := r.2.2.2.1 ++ outside n r.2.2.2.2 me.rd, up := me.up, nn := (r.2.2.2.2 - n) + me.nn } else none) else none
section
variable {P : Program} {ρ : Nat → Nat} {p : Nat → Prop} {M : List (Nat × Blk)} {w : World}
theorem outside_iff {n n1 : Nat} {l : List Nat} {b : Nat} : b ∈ outside n n1 l ↔ b ∈ l ∧ ¬ (n ≤ b ∧ b < n1) := by
  induction l with
  | nil => simp [outside]
  | cons a l ih =>
    simp only [outside]
    cases hb : (Nat.ble n a && Nat.blt a n1) with
    | true =>
      simp only [Bool.and_eq_true, Nat.ble_eq, Nat.blt_eq] at hb
      simp only [cond_true, ih, List.mem_cons]
      constructor
      · rintro ⟨h1, h2⟩; exact ⟨.inr h1, h2⟩
      · rintro ⟨rfl | h1, h2⟩
        · exact absurd hb h2
        · exact ⟨h1, h2⟩
    | false =>
      have hb' : ¬ (n ≤ a ∧ a < n1) := by
        intro ⟨h1, h2⟩
        have : (Nat.ble n a && Nat.blt a n1) = true := by simp only [Bool.and_eq_true, Nat.ble_eq, Nat.blt_eq]; exact ⟨h1, h2⟩
        rw [hb] at this; cases this
      simp only [cond_false, List.mem_cons, ih]
      constructor
      · rintro (rfl | ⟨h1, h2⟩)
        · exact ⟨.inl rfl, hb'⟩
        · exact ⟨.inr h1, h2⟩
      · rintro ⟨rfl | h1, h2⟩
        · exact .inl rfl
        · exact .inr ⟨h1, h2⟩
theorem clean_get {n n1 : Nat} {rds : List Nat} {up : List (Nat × Blk)} (h : clean n n1 rds up = true) {b : Nat} {x : Blk} (hx : getA up b = some x) : isRo x.2.2 = false ∧ b ∉ rds ∧ ¬ (n ≤ b ∧ b < n1) := by
  have hm := getA_mem hx
  clear hx
  induction up with
  | nil => cases hm
  | cons q l ih =>
    simp only [clean, Bool.and_eq_true, Bool.not_eq_true'] at h
    obtain ⟨⟨⟨h1, h2⟩, h3⟩, h4⟩ := h
    rcases List.mem_cons.1 hm with rfl | hm
    · refine ⟨h1, fun hb => ?_, fun ⟨a1, a2⟩ => ?_⟩
      · rw [elemN_iff.2 hb] at h2; cases h2
      · have : (Nat.ble n b && Nat.blt b n1) = true := by simp only [Bool.and_eq_true, Nat.ble_eq, Nat.blt_eq]; exact ⟨a1, a2⟩
        rw [this] at h3; cases h3
    · exact ih h4 hm
theorem hideM_get {M : List (Nat × Blk)} {l : List Nat} {b : Nat} {x : Blk} {A : List (Nat × Blk)} (h : getA (hideM M l A) b = some x) : (x = ([], 0, .dead) ∧ b ∈ l) ∨ (getA A b = some x ∧ (b ∈ l → roAt M b = true)) := by
  revert h
  ·
    induction l with
    | nil => intro h; exact .inr ⟨h, by simp⟩
    | cons a l ih =>
      intro h
      simp only [hideM] at h
      cases hr : roAt M a with
      | true =>
        rw [hr] at h
        simp only [cond_true] at h
        rcases ih h with ⟨h1, h2⟩ | ⟨h1, h2⟩
        · exact .inl ⟨h1, List.mem_cons_of_mem _ h2⟩
        · exact .inr ⟨h1, fun hb => (List.mem_cons.1 hb).elim (fun e => by subst e; exact hr) h2⟩
      | false =>
        rw [hr] at h
        simp only [cond_false, getA] at h
        cases hb : Nat.beq a b with
        | true =>
          simp only [hb, cond_true, Option.some.injEq] at h
          have : a = b := by simpa using hb
          subst this
          exact .inl ⟨h.symm, List.mem_cons_self ..⟩
        | false =>
          simp only [hb, cond_false] at h
          rcases ih h with ⟨h1, h2⟩ | ⟨h1, h2⟩
          · exact .inl ⟨h1, List.mem_cons_of_mem _ h2⟩
          · refine .inr ⟨h1, fun hm => (List.mem_cons.1 hm).elim (fun e => ?_) h2⟩
            subst e
            simp at hb
theorem srcS_at {v : VV} {rs : List VV} {m : Nat} {rd : List Nat} (h : srcS M v = some (true, rs, m, rd)) (hs : isStr v = false) (hroom : roomy v = true) (hmm : ∀ b ∈ rd, MmOK ρ p M w b) :
    ∃ ad cap, v.den ρ = .slice ad m cap ∧ m ≤ cap ∧ (ad = none → cap = 0) ∧ (∀ x, ad = some x → ∃ g o, x = ⟨g, o, none⟩) ∧ VV.ws rs = m ∧
      (m ≠ 0 → ∃ g o pre tail t fz, ad = some ⟨g, o, none⟩ ∧ w.heap[g]? = some (.cells (pre ++ VV.cellss ρ rs ++ tail).toArray t fz) ∧ pre.length = o ∧ ∃ d ∈ rd, ∃ y, getA M d = some y ∧ occ ρ d y g) := by
  have cutp : ∀ {pre cs tail : List Value} {i : Nat}, i + m ≤ cs.length → pre ++ cs ++ tail = (pre ++ cs.take i) ++ ((cs.drop i).take m) ++ (cs.drop (i + m) ++ tail) := by
    intro pre cs tail i hi
    have e1 : cs = cs.take i ++ ((cs.drop i).take m ++ cs.drop (i + m)) := by
      rw [← List.drop_drop, List.take_append_drop, List.take_append_drop]
    conv => lhs; rw [e1]
    simp only [List.append_assoc]
  cases v <;> simp only [srcS, reduceCtorEq] at h
  case sl b off len cap =>
    obtain ⟨x, h1, h2⟩ := Option.bind_eq_some_iff.1 h
    obtain ⟨hro, h2⟩ := ro_no h2
    obtain ⟨⟨f, r⟩, h3, h4⟩ := Option.map_eq_some_iff.1 h2
    simp only [Prod.mk.injEq] at h4
    obtain ⟨rfl, rfl, rfl, rfl⟩ := h4
    obtain ⟨m1, m2, m3⟩ := hmm b (by simp) x h1
    obtain ⟨s1, s2, s3, s4, s5⟩ := subR_spec (ρ := ρ) h3
    refine ⟨_, cap, rfl, by simpa [roomy] using hroom, (fun h => by cases h), (fun x hx => by simp only [Option.some.injEq] at hx; exact ⟨_, _, hx.symm⟩), s3, fun h0 => ?_⟩
    obtain ⟨tail, fz, g1, _, _, g4⟩ := m1.row hro (by omega)
    refine ⟨ρ b, off, (VV.cellss ρ x.1).take off, (VV.cellss ρ x.1).drop (off + len) ++ tail, x.2.1, fz, rfl, ?_, by rw [List.length_take, cellss_length]; omega, b, by simp, x, h1, occ_of_own g4⟩
    have := cutp (pre := []) (cs := VV.cellss ρ x.1) (tail := tail) (i := off) (by rw [cellss_length]; exact s2)
    simp only [List.nil_append] at this
    rw [s1, ← this]
    exact g1
  case sr b o n j len cap =>
    obtain ⟨x, h1, h2⟩ := Option.bind_eq_some_iff.1 h
    obtain ⟨hro, h2⟩ := ro_no h2
    obtain ⟨⟨f, r⟩, h3, h4⟩ := Option.map_eq_some_iff.1 h2
    simp only [Prod.mk.injEq] at h4
    obtain ⟨rfl, rfl, rfl, rfl⟩ := h4
    obtain ⟨m1, m2, m3⟩ := hmm b (by simp) x h1
    obtain ⟨s1, s2, s3, s4, s5⟩ := subP_spec (ρ := ρ) h3
    refine ⟨_, cap, rfl, by simpa [roomy] using hroom, (fun h => by cases h), (fun x hx => by simp only [Option.some.injEq] at hx; exact ⟨_, _, hx.symm⟩), s3, fun h0 => ?_⟩
    obtain ⟨tail, fz, g1, _, _, g4⟩ := m1.row hro (by omega)
    refine ⟨ρ b, o + j, (VV.cellss ρ x.1).take (o + j), (VV.cellss ρ x.1).drop (o + j + len) ++ tail, x.2.1, fz, rfl, ?_, by rw [List.length_take, cellss_length]; omega, b, by simp, x, h1, occ_of_own g4⟩
    have := cutp (pre := []) (cs := VV.cellss ρ x.1) (tail := tail) (i := o + j) (by rw [cellss_length]; exact s2)
    simp only [List.nil_append] at this
    rw [s1, ← this]
    exact g1
  case vec b off len c =>
    obtain ⟨x, h1, h2⟩ := Option.bind_eq_some_iff.1 h
    cases hv : isVec c x.2.2 with
    | false => simp [hv] at h2
    | true =>
      rw [hv] at h2
      simp only [cond_true] at h2
      obtain ⟨⟨f, r⟩, h3, h4⟩ := Option.map_eq_some_iff.1 h2
      simp only [Prod.mk.injEq] at h4
      obtain ⟨rfl, rfl, rfl, rfl⟩ := h4
      obtain ⟨m1, m2, m3⟩ := hmm b (by simp) x h1
      obtain ⟨s1, s2, s3, s4, s5⟩ := subR_spec (ρ := ρ) h3
      obtain ⟨rs0, t, kd⟩ := x
      have hk := isVec_eq hv
      simp only at hk s2
      subst hk
      have hw1 := m1.1
      simp only at hw1
      refine ⟨_, _, rfl, by omega, fun h => ?_, fun x hx => ?_, s3, fun h0 => ?_⟩
      · split at h
        · omega
        · cases h
      · split at hx
        · cases hx
        · simp only [Option.some.injEq] at hx; exact ⟨_, _, hx.symm⟩
      · have hc0 : ρ c ≠ 0 := by omega
        obtain ⟨tail, fz, g1, _⟩ := m1.2 hc0
        simp only at g1 s1
        refine ⟨ρ b, off, (VV.cellss ρ rs0).take off, (VV.cellss ρ rs0).drop (off + len) ++ tail, t, fz, if_neg hc0, ?_, by rw [List.length_take, cellss_length]; omega, b, by simp, _, h1, hc0, rfl⟩
        have := cutp (pre := []) (cs := VV.cellss ρ rs0) (tail := tail) (i := off) (by rw [cellss_length]; exact s2)
        simp only [List.nil_append] at this
        rw [s1, ← this]
        exact g1
  case vw r b off len g =>
    obtain ⟨x, h1, h2⟩ := Option.bind_eq_some_iff.1 h
    cases hv : (isRo x.2.2 == r) with
    | false => simp [hv] at h2
    | true =>
      rw [hv] at h2
      simp only [cond_true] at h2
      have hr : isRo x.2.2 = r := by simpa using hv
      obtain ⟨⟨f, r'⟩, h3, h4⟩ := Option.map_eq_some_iff.1 h2
      simp only [Prod.mk.injEq] at h4
      obtain ⟨rfl, rfl, rfl, rfl⟩ := h4
      obtain ⟨m1, m2, m3⟩ := hmm b (by simp) x h1
      obtain ⟨s1, s2, s3, s4, s5⟩ := subR_spec (ρ := ρ) h3
      refine ⟨_, _, rfl, Nat.le_add_right _ _, fun h => ?_, fun x hx => ?_, s3, fun h0 => ?_⟩
      · split at h
        · rename_i hh
          rw [hh.1, hh.2]; simp [roomOf]
        · cases h
      · split at hx
        · cases hx
        · simp only [Option.some.injEq] at hx; exact ⟨_, _, hx.symm⟩
      · rw [if_neg (by omega), if_neg (by omega)]
        cases r with
        | false =>
          obtain ⟨tail, fz, g1, _, _, g4⟩ := m1.row hr (by omega)
          refine ⟨ρ b, off, (VV.cellss ρ x.1).take off, (VV.cellss ρ x.1).drop (off + len) ++ tail, x.2.1, fz, by simp [baseOf], ?_, by rw [List.length_take, cellss_length]; omega, b, by simp, x, h1, occ_of_own g4⟩
          have := cutp (pre := []) (cs := VV.cellss ρ x.1) (tail := tail) (i := off) (by rw [cellss_length]; exact s2)
          simp only [List.nil_append] at this
          rw [s1, ← this]
          exact g1
        | true =>
          obtain ⟨rs0, t, kd⟩ := x
          cases kd <;> simp [isRo] at hr
          case rb l =>
            simp only [Holds] at m1
            obtain ⟨rfl, _⟩ := m1
            simp only [VV.ws] at s2
            omega
          simp only at s2 s1
          obtain ⟨pre, tail, t', fz, g1, g2⟩ := m1 (by simp only; omega)
          simp only at g1
          refine ⟨(dec (ρ b)).1, (dec (ρ b)).2 + off, pre ++ (VV.cellss ρ rs0).take off, (VV.cellss ρ rs0).drop (off + len) ++ tail, t', fz, rfl, ?_, by rw [List.length_append, List.length_take, cellss_length, g2]; omega, b, by simp, _, h1, (by simp only; omega), rfl⟩
          rw [s1, ← cutp (by rw [cellss_length]; exact s2)]
          exact g1
  case str => cases hs
  case raw v =>
    split at h
    all_goals (rename_i hq)
    case h_6 =>
      simp only [VV.raw.injEq] at hq
      subst hq
      simp only [Option.some.injEq, Prod.mk.injEq, true_and] at h
      obtain ⟨rfl, rfl, rfl⟩ := h
      exact ⟨none, 0, rfl, Nat.le_refl _, fun _ => rfl, fun x hx => (by cases hx), rfl, fun h => absurd rfl h⟩
    case h_7 => cases h
    all_goals cases hq
theorem srcS_rd {v : VV} {q : Bool × List VV × Nat × List Nat} (h : srcS M v = some q) : ∀ b ∈ q.2.2.2, (getA M b).isSome ∧ b ∈ v.ids := by
  cases v <;> simp only [srcS, reduceCtorEq] at h
  case sl b off len cap =>
    obtain ⟨x, h1, h2⟩ := Option.bind_eq_some_iff.1 h
    obtain ⟨hro, h2⟩ := ro_no h2
    obtain ⟨⟨f, r⟩, h3, h4⟩ := Option.map_eq_some_iff.1 h2
    subst h4
    intro d hd
    simp only [List.mem_singleton] at hd
    subst hd
    exact ⟨by simp [h1], by simp [VV.ids]⟩
  case sr b o n j len cap =>
    obtain ⟨x, h1, h2⟩ := Option.bind_eq_some_iff.1 h
    obtain ⟨hro, h2⟩ := ro_no h2
    obtain ⟨⟨f, r⟩, h3, h4⟩ := Option.map_eq_some_iff.1 h2
    subst h4
    intro d hd
    simp only [List.mem_singleton] at hd
    subst hd
    exact ⟨by simp [h1], by simp [VV.ids]⟩
  case vec b off len c =>
    obtain ⟨x, h1, h2⟩ := Option.bind_eq_some_iff.1 h
    cases hv : isVec c x.2.2 with
    | false => simp [hv] at h2
    | true =>
      rw [hv] at h2
      obtain ⟨⟨f, r⟩, h3, h4⟩ := Option.map_eq_some_iff.1 h2
      subst h4
      intro d hd
      simp only [List.mem_singleton] at hd
      subst hd
      exact ⟨by simp [h1], by simp [VV.ids]⟩
  case vw r b off len g =>
    obtain ⟨x, h1, h2⟩ := Option.bind_eq_some_iff.1 h
    cases hv : (isRo x.2.2 == r) with
    | false => simp [hv] at h2
    | true =>
      rw [hv] at h2
      obtain ⟨⟨f, r'⟩, h3, h4⟩ := Option.map_eq_some_iff.1 h2
      subst h4
      intro d hd
      simp only [List.mem_singleton] at hd
      subst hd
      exact ⟨by simp [h1], by simp [VV.ids]⟩
  case str s =>
    simp only [Option.some.injEq] at h
    subst h
    simp
  case raw v =>
    split at h
    all_goals (rename_i hq)
    case h_6 =>
      simp only [Option.some.injEq] at h
      subst h
      simp
    case h_7 => cases h
    all_goals cases hq
theorem MmOK.congr {ρ ρ' : Nat → Nat} {p p' : Nat → Prop} {b : Nat} (h : MmOK ρ p M w b) (hb : p b) (hag : ∀ i, p i → ρ' i = ρ i) (hp : ∀ i, p i → p' i) : MmOK ρ' p' M w b := fun blk hblk =>
  let ⟨h1, h2, h3⟩ := h blk hblk
  ⟨h1.congr (hag b hb) (fun i hi => hag i (h3 i hi)) fun _ _ => rfl, h2, fun i hi => hp i (h3 i hi)⟩
theorem fixR_spec (k : IntKind) (rs : List VV) (ρ : Nat → Nat) : VV.cellss ρ (fixR k rs) = VV.cellss ρ rs ∧ VV.ws (fixR k rs) = VV.ws rs ∧ VV.mems (fixR k rs) = VV.mems rs ∧ VV.idss (fixR k rs) = VV.idss rs := by
  cases rs <;> exact ⟨rfl, rfl, rfl, rfl⟩
theorem viewL_le {vs0 : List VV} : ∀ (ps : List (Nat × IntKind)) (vs : List VV) (n : Nat) r, viewL M vs0 ps vs n = some r → n ≤ r.2.2.2.2 := by
  intro ps
  induction ps with
  | nil => intro vs n r h; simp only [viewL, Option.some.injEq] at h; subst h; exact Nat.le_refl _
  | cons i ps ih =>
    intro vs n r h
    simp only [viewL] at h
    obtain ⟨v, _, h2⟩ := Option.bind_eq_some_iff.1 h
    cases hs : isStr v with
    | true => simp [hs] at h2
    | false =>
      rw [hs] at h2
      simp only [cond_false] at h2
      obtain ⟨q, _, h4⟩ := Option.bind_eq_some_iff.1 h2
      obtain ⟨r', h5, h6⟩ := Option.map_eq_some_iff.1 h4
      have := ih _ _ _ h5
      subst h6
      show n ≤ r'.2.2.2.2
      omega
theorem viewL_spec (P : Program) {vs0 : List VV} {ρ0 : Nat → Nat} {p : Nat → Prop} {n0 : Nat} (hu0 : ∀ u ∈ vs0, u.okL ∧ ∀ i ∈ u.ids, p i) : ∀ (ps : List (Nat × IntKind)) (vs : List VV) (n : Nat) (ρ : Nat → Nat) {vs1 : List VV} {B : List (Nat × Blk)} {rds : List Nat} {n1 : Nat},
    viewL M vs0 ps vs n = some (true, vs1, B, rds, n1) → n0 ≤ n → (∀ i, p i → ρ i = ρ0 i) → vs.map (VV.den ρ) = vs0.map (VV.den ρ0) → (∀ u ∈ vs, u.okL ∧ ∀ i ∈ u.ids, p i ∨ (n0 ≤ i ∧ i < n)) → (∀ b ∈ rds, MmOK ρ0 p M w b) → (∀ i, p i → ¬ (n0 ≤ i ∧ i < n1)) →
    ∃ ρ1, (∀ i, ¬ (n ≤ i ∧ i < n1) → ρ1 i = ρ i) ∧ vs1.map (VV.den ρ1) = vs0.map (VV.den ρ0) ∧ (∀ u ∈ vs1, u.okL ∧ ∀ i ∈ u.ids, p i ∨ (n0 ≤ i ∧ i < n1)) ∧
      (∀ b x, getA B b = some x → (n ≤ b ∧ b < n1) ∧ Holds ρ1 w b x ∧ VV.mems x.1 = true ∧ (∀ i ∈ bids x, p i) ∧ isRo x.2.2 = true ∧ ∀ k, occ ρ1 b x k → ∃ d ∈ rds, ∃ y, getA M d = some y ∧ occ ρ0 d y k) ∧
      (∀ b ∈ rds, p b ∧ (getA M b).isSome)
  | [], vs, n, ρ, vs1, B, rds, n1, h, _, _, hd, hu, _, _ => by
    simp only [viewL, Option.some.injEq, Prod.mk.injEq, true_and] at h
    obtain ⟨rfl, rfl, rfl, rfl⟩ := h
    exact ⟨ρ, fun _ _ => rfl, hd, hu, fun _ _ h => by simp [getA] at h, by simp⟩
  | i :: ps, vs, n, ρ, vs1, B, rds, n1, h, hn0, hρ, hd, hu, hmm, hpn => by
    have hle0 := viewL_le _ _ _ _ h
    simp only at hle0
    simp only [viewL] at h
    obtain ⟨v, h1, h2⟩ := Option.bind_eq_some_iff.1 h
    cases hs : isStr v with
    | true => simp [hs] at h2
    | false =>
    rw [hs] at h2
    simp only [cond_false] at h2
    obtain ⟨⟨f, rs, m, rd⟩, h3, h4⟩ := Option.bind_eq_some_iff.1 h2
    obtain ⟨⟨f', vs', B', rds', n'⟩, h5, h6⟩ := Option.map_eq_some_iff.1 h4
    simp only [Prod.mk.injEq, Bool.and_eq_true] at h6
    obtain ⟨⟨⟨rfl, hroom⟩, rfl⟩, rfl, rfl, rfl, rfl⟩ := h6
    have hv := List.mem_of_getElem? h1
    obtain ⟨v1, v2⟩ := hu0 v hv
    obtain ⟨s1, s2, s3, s4, s5⟩ := srcS_spec (P := P) (w := w) h3 (fun b hb => hmm b (List.mem_append.2 (.inl hb))) v2
    obtain ⟨ad, cap, t1, t2, t3, t4, t5, t6⟩ := srcS_at (w := w) h3 hs hroom (fun b hb => hmm b (List.mem_append.2 (.inl hb)))

    have hqo : ∃ q g, (VV.den ρ0 v = vwV (dec q) g 0 m) ∧ (m ≠ 0 → ∃ pre tail t fz, w.heap[(dec q).1]? = some (.cells (pre ++ VV.cellss ρ0 rs ++ tail).toArray t fz) ∧ pre.length = (dec q).2 ∧ ∃ d ∈ rd, ∃ y, getA M d = some y ∧ occ ρ0 d y (dec q).1) := by
      cases had : ad with
      | none =>
        obtain ⟨g, hg⟩ := view_onto (q := dec 0) (ad := none) (off := 0) (len := m) (cap := cap) t2 (fun _ => t3 had) (fun x hx => by cases hx)
        refine ⟨0, g, by rw [t1, had]; exact hg, fun h0 => ?_⟩
        have := t3 had
        omega
      | some x =>
        obtain ⟨gb, o, rfl⟩ := t4 x had
        obtain ⟨q, hq⟩ := dec_onto gb o
        obtain ⟨g, hg⟩ := view_onto (q := dec q) (ad := some ⟨gb, o, none⟩) (off := 0) (len := m) (cap := cap) t2 (fun h => by cases h) (fun x hx => by
          simp only [Option.some.injEq] at hx
          refine ⟨o, by rw [hq]; exact hx.symm, fun _ => by rw [hq]; rfl⟩)
        refine ⟨q, g, by rw [t1, had]; exact hg, fun h0 => ?_⟩
        obtain ⟨g', o', pre, tail, t, fz, e1, e2, e3, e4⟩ := t6 h0
        rw [had] at e1
        simp only [Option.some.injEq, Addr.mk.injEq, and_true] at e1
        obtain ⟨rfl, rfl⟩ := e1
        rw [hq]
        exact ⟨pre, tail, t, fz, e2, e3, e4⟩
    obtain ⟨q, g, hden, hat⟩ := hqo
    have hle : n + 2 ≤ n' := viewL_le _ _ _ _ h5
    let ρ' : Nat → Nat := fun j => if j = n then q else if j = n + 1 then g else ρ j
    have hag : ∀ j, ¬ (n ≤ j ∧ j < n + 2) → ρ' j = ρ j := fun j hj => by
      show (if j = n then _ else if j = n + 1 then _ else ρ j) = ρ j
      rw [if_neg (by omega), if_neg (by omega)]
    have r0 : ρ' n = q := by show (if n = n then _ else _) = _; simp
    have r1 : ρ' (n + 1) = g := by show (if n + 1 = n then _ else if n + 1 = n + 1 then _ else _) = _; simp
    have hpn' : ∀ j, p j → ¬ (n ≤ j ∧ j < n') := fun j hj h => hpn j hj ⟨by omega, h.2⟩
    have hpρ : ∀ j, p j → ρ' j = ρ j := fun j hj => hag j (fun ⟨a1, a2⟩ => hpn' j hj ⟨a1, by omega⟩)
    have hset : (vs.set i.1 (.vw true n 0 m (n + 1))).map (VV.den ρ') = vs0.map (VV.den ρ0) := by
      rw [← hd]
      refine List.ext_getElem? fun j => ?_
      simp only [List.getElem?_map, List.getElem?_set]
      by_cases hj : i.1 = j
      · subst hj
        have e1 : (vs.map (VV.den ρ))[i.1]? = some (VV.den ρ0 v) := by rw [hd, List.getElem?_map, h1]; rfl
        rw [List.getElem?_map] at e1
        obtain ⟨u, hu1, hu2⟩ := Option.map_eq_some_iff.1 e1
        have hlt := (List.getElem?_eq_some_iff.1 hu1).1
        simp only [if_true, hlt, hu1, Option.map_some]
        congr 1
        rw [hu2, hden]
        simp only [VV.den, VV.den0, VV.cells, List.headD_cons, r0, r1, baseOf, cond_true]
      · rw [if_neg hj]
        cases hq : vs[j]? with
        | none => rfl
        | some u =>
          simp only [Option.map_some, Option.some.injEq]
          refine den_congr u fun y hy => ?_
          rcases (hu u (List.mem_of_getElem? hq)).2 y hy with h | h
          · exact hpρ y h
          · exact hag y (by omega)
    obtain ⟨ρ1, k2, k3, k4, k5, k6⟩ := viewL_spec P hu0 ps (vs.set i.1 (.vw true n 0 m (n + 1))) (n + 2) ρ' h5 (by omega) (fun j hj => (hpρ j hj).trans (hρ j hj)) hset (fun u hu' => by
        rcases List.mem_or_eq_of_mem_set hu' with h | rfl
        · exact ⟨(hu u h).1, fun j hj => ((hu u h).2 j hj).imp id fun h => ⟨h.1, by omega⟩⟩
        · refine ⟨rfl, fun j hj => .inr ?_⟩
          simp only [VV.ids, List.mem_cons, List.not_mem_nil, or_false] at hj
          omega)
      (fun b hb => hmm b (List.mem_append.2 (.inr hb))) hpn
    refine ⟨ρ1, fun j hj => by rw [k2 j (fun h => hj ⟨by omega, h.2⟩)]; exact hag j (fun h => hj ⟨h.1, by omega⟩), k3, k4, fun b x hx => ?_, fun b hb => ?_⟩
    · simp only [getA] at hx
      cases hb : Nat.beq n b with
      | true =>
        have : n = b := by simpa using hb
        subst this
        simp only [hb, cond_true, Option.some.injEq] at hx
        subst hx
        have e0 : ρ1 n = q := by rw [k2 n (by omega), r0]
        have ec : VV.cellss ρ1 (fixR i.2 rs) = VV.cellss ρ0 rs := by
          rw [(fixR_spec i.2 rs ρ1).1]
          exact cellss_congr rs fun j hj => by
            have hpj := s4 j hj
            rw [k2 j (fun h => hpn' j hpj ⟨by omega, h.2⟩), hpρ j hpj, hρ j hpj]
        have hwf := (fixR_spec i.2 rs ρ1).2.1
        refine ⟨⟨Nat.le_refl _, by omega⟩, ?_, by rw [(fixR_spec i.2 rs ρ1).2.2.1]; exact s3, fun j hj => s4 j (by rw [← (fixR_spec i.2 rs ρ1).2.2.2]; simpa [bids] using hj), rfl, fun k hk => ?_⟩
        · simp only [Holds]
          intro h0
          obtain ⟨pre, tail, t, fz, e1, e2, _⟩ := hat (by omega)
          exact ⟨pre, tail, t, fz, by rw [e0, ec]; exact e1, by rw [e0]; exact e2⟩
        · simp only [occ, e0] at hk
          obtain ⟨pre, tail, t, fz, _, _, d, hd, y, hy, ho⟩ := hat (by omega)
          exact ⟨d, List.mem_append.2 (.inl hd), y, hy, by rw [hk.2]; exact ho⟩
      | false =>
        simp only [hb, cond_false] at hx
        obtain ⟨a1, a2, a3, a4, a5, a6⟩ := k5 b x hx
        refine ⟨⟨by omega, a1.2⟩, a2, a3, a4, a5, fun k hk => ?_⟩
        obtain ⟨d, hd, y, hy, ho⟩ := a6 k hk
        exact ⟨d, List.mem_append.2 (.inr hd), y, hy, ho⟩
    · rcases List.mem_append.1 hb with hb | hb
      · exact ⟨s5 b hb, (srcS_rd h3 b hb).1⟩
      · exact k6 b hb
theorem getA_append (A B : List (Nat × Blk)) (b : Nat) : getA (A ++ B) b = (getA A b).or (getA B b) := by
  induction A with
  | nil => simp [getA]
  | cons q A ih =>
    obtain ⟨a, x⟩ := q
    simp only [List.cons_append, getA]
    cases Nat.beq a b with
    | true => simp
    | false => simpa using ih
theorem rdB_spec {n n1 : Nat} {B : List (Nat × Blk)} {l : List Nat} (h : rdB n n1 B l = true) {b : Nat} (hb : b ∈ l) (hB : getA B b = none) : ¬ (n ≤ b ∧ b < n1) := by
  induction l with
  | nil => cases hb
  | cons a l ih =>
    simp only [rdB, Bool.and_eq_true] at h
    rcases List.mem_cons.1 hb with rfl | hb
    · intro ⟨a1, a2⟩
      have e : (Nat.ble n b && Nat.blt b n1) = true := by simp only [Bool.and_eq_true, Nat.ble_eq, Nat.blt_eq]; exact ⟨a1, a2⟩
      have := h.1
      rw [e, hB] at this
      cases this
    · exact ih h.2 hb
theorem viewL_rds {vs0 : List VV} : ∀ (ps : List (Nat × IntKind)) (us : List VV) (n : Nat) r, viewL M vs0 ps us n = some r → ∀ b ∈ r.2.2.2.1, (getA M b).isSome := by
  intro ps
  induction ps with
  | nil => intro us n r h; simp only [viewL, Option.some.injEq] at h; subst h; simp
  | cons i ps ih =>
    intro us n r h
    simp only [viewL] at h
    obtain ⟨v, _, h2⟩ := Option.bind_eq_some_iff.1 h
    cases hs : isStr v with
    | true => simp [hs] at h2
    | false =>
      rw [hs] at h2
      simp only [cond_false] at h2
      obtain ⟨q, h3, h4⟩ := Option.bind_eq_some_iff.1 h2
      obtain ⟨r', h5, h6⟩ := Option.map_eq_some_iff.1 h4
      subst h6
      intro b hb
      rcases List.mem_append.1 hb with hb | hb
      · exact (srcS_rd h3 b hb).1
      · exact ih _ _ _ h5 b hb
theorem viewL_keys {vs0 : List VV} : ∀ (ps : List (Nat × IntKind)) (us : List VV) (n : Nat) r, viewL M vs0 ps us n = some r → ∀ b x, getA r.2.2.1 b = some x → n ≤ b ∧ b < r.2.2.2.2 := by
  intro ps
  induction ps with
  | nil => intro us n r h; simp only [viewL, Option.some.injEq] at h; subst h; intro b x hx; simp [getA] at hx
  | cons i ps ih =>
    intro us n r h
    have hle := viewL_le _ _ _ _ h
    simp only [viewL] at h
    obtain ⟨v, _, h2⟩ := Option.bind_eq_some_iff.1 h
    cases hs : isStr v with
    | true => simp [hs] at h2
    | false =>
      rw [hs] at h2
      simp only [cond_false] at h2
      obtain ⟨q, h3, h4⟩ := Option.bind_eq_some_iff.1 h2
      obtain ⟨r', h5, h6⟩ := Option.map_eq_some_iff.1 h4
      have hle' := viewL_le _ _ _ _ h5
      have := ih _ _ _ h5
      subst h6
      intro b x hx
      simp only [getA] at hx
      cases hb : Nat.beq n b with
      | true =>
        have : n = b := by simpa using hb
        subst this
        exact ⟨Nat.le_refl _, by show n < r'.2.2.2.2; omega⟩
      | false =>
        simp only [hb, cond_false] at hx
        obtain ⟨a1, a2⟩ := this b x hx
        exact ⟨by omega, a2⟩
theorem own_no_ro {x : Blk} {b k : Nat} (h : isRo x.2.2 = true) : ¬ own ρ b x k := by
  obtain ⟨rs, t, kd⟩ := x
  cases kd <;> simp [isRo] at h <;> simp [own]
theorem view_ok {f : FuncId} {ps : List (Nat × IntKind)} {E : Entry} (hE : EntryOK P f E) : EntryOK P f (viewE ps E) := by
  intro α vs M n k r h
  simp only [viewE] at h
  obtain ⟨⟨f0, vs1, B, rds, n1⟩, h1, h2⟩ := Option.bind_eq_some_iff.1 h
  cases f0 with
  | false => simp at h2
  | true =>
  simp only [cond_true] at h2
  obtain ⟨v, me1, h3, hcall⟩ := hE α vs1 _ n1 _ r h2
  cases hcl : (clean n n1 rds me1.up && rdB n n1 B me1.rd) with
  | false => simp [hcl] at h3
  | true =>
  simp only [hcl, cond_true] at h3
  simp only [Bool.and_eq_true] at hcl
  obtain ⟨hcl, hrdB⟩ := hcl
  have hle : n ≤ n1 := viewL_le _ _ _ _ h1
  obtain ⟨c1, c2, c3⟩ := hcall

  have hM1 : ∀ b x, getA (B ++ hideM M rds M) b = some x → getA B b = some x ∨ (getA B b = none ∧ x = ([], 0, .dead) ∧ b ∈ rds) ∨ (getA B b = none ∧ getA M b = some x ∧ (b ∈ rds → roAt M b = true)) := by
    intro b x hx
    rw [getA_append] at hx
    cases hb : getA B b with
    | some z => rw [hb] at hx; simp only [Option.some_or, Option.some.injEq] at hx; subst hx; exact .inl rfl
    | none =>
      rw [hb] at hx
      simp only [Option.none_or] at hx
      rcases hideM_get hx with ⟨a1, a2⟩ | ⟨a1, a2⟩
      · exact .inr (.inl ⟨rfl, a1, a2⟩)
      · exact .inr (.inr ⟨rfl, a1, a2⟩)
  refine ⟨v, _, h3, c1, fun b hb => ?_, fun ρ p w hu hmm hpart hpn hgd => ?_⟩
  · rcases List.mem_append.1 hb with hb | hb
    · exact viewL_rds _ _ _ _ h1 b hb
    · obtain ⟨hb1, hb2⟩ := outside_iff.1 hb
      obtain ⟨x, hx⟩ := Option.isSome_iff_exists.1 (c2 b hb1)
      rcases hM1 b x hx with h | ⟨_, _, h⟩ | ⟨_, h, _⟩
      · exact absurd (viewL_keys _ _ _ _ h1 b x h) hb2
      · exact viewL_rds _ _ _ _ h1 b h
      · rw [h]; rfl
  · have hmmR : ∀ b ∈ rds, MmOK ρ p M w b := fun b hb => hmm b (List.mem_append.2 (.inl hb))
    have hpn0 : ∀ i, p i → ¬ (n ≤ i ∧ i < n1) := fun i hi h => hpn i hi ⟨h.1, by simp only; omega⟩
    obtain ⟨ρ1, k2, k3, k4, k5, k6⟩ := viewL_spec P (w := w) (n0 := n) hu ps vs n ρ h1 (Nat.le_refl _) (fun _ _ => rfl) rfl (fun u hu' => ⟨(hu u hu').1, fun i hi => .inl ((hu u hu').2 i hi)⟩) hmmR hpn0
    have hρ1 : ∀ i, p i → ρ1 i = ρ i := fun i hi => k2 i (hpn0 i hi)
    have memO : ∀ {b}, b ∈ me1.rd → getA B b = none → b ∈ rds ++ outside n n1 me1.rd ∧ ¬ (n ≤ b ∧ b < n1) := fun hb hB =>
      have h := rdB_spec hrdB hb hB
      ⟨List.mem_append.2 (.inr (outside_iff.2 ⟨hb, h⟩)), h⟩
    have ownO : ∀ {b x}, b ∈ me1.rd → getA B b = none → getA M b = some x → ∀ k, own ρ1 b x k ↔ own ρ b x k := fun {b x} hb hB hx k =>
      own_congr (k2 b (memO hb hB).2) fun i hi => hρ1 i ((hmm b (memO hb hB).1 x hx).2.2 i hi)
    have occO : ∀ {b x}, b ∈ me1.rd → getA B b = none → getA M b = some x → ∀ k, occ ρ1 b x k ↔ occ ρ b x k := fun {b x} hb hB hx k =>
      occ_congr (k2 b (memO hb hB).2) fun i hi => hρ1 i ((hmm b (memO hb hB).1 x hx).2.2 i hi)
    obtain ⟨rs1, calls⟩ := c3 ρ1 (fun i => p i ∨ (n ≤ i ∧ i < n1)) w k4 (fun b hb blk hblk => by
        rcases hM1 b blk hblk with h | ⟨_, rfl, _⟩ | ⟨hB, h, _⟩
        · obtain ⟨_, a2, a3, a4, _⟩ := k5 b blk h
          exact ⟨a2, a3, fun i hi => .inl (a4 i hi)⟩
        · exact ⟨rfl, rfl, fun i hi => by simp [bids, VV.idss] at hi⟩
        · obtain ⟨m1, m2, m3⟩ := hmm b (memO hb hB).1 blk h
          exact ⟨m1.congr (k2 b (memO hb hB).2) (fun i hi => hρ1 i (m3 i hi)) fun _ _ => rfl, m2, fun i hi => .inl (m3 i hi)⟩)
      (fun b c hb hc hbc x y hx hy q ho hoc => by
        rcases hM1 b x hx with h | ⟨_, rfl, _⟩ | ⟨hB, h, hr⟩
        · exact own_no_ro (k5 b x h).2.2.2.2.1 ho
        · simp [own] at ho
        · have ho' := (ownO hb hB h q).1 ho
          rcases hM1 c y hy with h' | ⟨_, rfl, _⟩ | ⟨hB', h', _⟩
          · obtain ⟨d, hd, z, hz, hoz⟩ := (k5 c y h').2.2.2.2.2 q hoc
            have hbd : b ≠ d := by
              rintro rfl
              have := hr hd
              simp only [roAt, h] at this
              exact own_no_ro this ho
            exact hpart b d (memO hb hB).1 (List.mem_append.2 (.inl hd)) hbd x z h hz q ho' hoz
          · simp [occ, own] at hoc
          · exact hpart b c (memO hb hB).1 (memO hc hB').1 hbc x y h h' q ho' ((occO hc hB' h' q).1 hoc))
      (fun i hi => by
        rcases hi with hi | hi
        · intro hin; exact hpn i hi ⟨by omega, by simp only; omega⟩
        · omega)
      ⟨hgd.1, fun b hb x hx q ho g hg => by
        rcases hM1 b x hx with h | ⟨_, rfl, _⟩ | ⟨hB, h, _⟩
        · exact absurd ho (own_no_ro (k5 b x h).2.2.2.2.1)
        · simp [own] at ho
        · exact hgd.2 b (memO hb hB).1 x h q ((ownO hb hB h q).1 ho) g hg⟩
    have hids : ∀ i, (p i ∨ (n ≤ i ∧ i < n1)) ∨ (n1 ≤ i ∧ i < n1 + me1.nn) → p i ∨ (n ≤ i ∧ i < n + (n1 - n + me1.nn)) := by
      rintro i ((h | h) | h)
      · exact .inl h
      · exact .inr ⟨h.1, by omega⟩
      · exact .inr ⟨by omega, by omega⟩
    refine ⟨⟨rs1.ok, fun i hi => hids i (rs1.ids i hi), fun b blk hb => ?_, fun b hb => ?_⟩, ?_⟩
    · obtain ⟨u1, u2, u3⟩ := rs1.up b blk hb
      refine ⟨?_, u2, fun i hi => hids i (u3 i hi)⟩
      rcases u1 with u1 | u1
      · exact .inl (List.mem_append.2 (.inr (outside_iff.2 ⟨u1, (clean_get hcl hb).2.2⟩)))
      · exact .inr ⟨by omega, by simp only; omega⟩
    · rcases List.mem_append.1 hb with hb | hb
      · exact (k6 b hb).1
      · obtain ⟨hb1, hb2⟩ := outside_iff.1 hb
        rcases rs1.rd b hb1 with h | h
        · exact h
        · exact absurd h hb2
    · rw [k3] at calls
      refine calls.mono fun e w' ⟨ρ', he, hag, hms⟩ => ⟨ρ', he, fun i hi => by
        rw [hag i (fun h => hi ⟨by omega, by simp only; omega⟩), k2 i (fun h => hi ⟨h.1, by simp only; omega⟩)], ⟨hms.os, hms.tape, hms.output, hms.size, hms.at', fun b x hx q hq => ?_, hms.cross, fun q hq g1 g2 => ?_⟩⟩
      · rcases hms.src b x hx q hq with h | ⟨d, hd, y, hy, o1, o2, o3⟩
        · exact .inl h
        · have ho := o2 (occ_not_ro (clean_get hcl hx).1 hq)
          rcases hM1 d y hy with h | ⟨_, rfl, _⟩ | ⟨hB, h, _⟩
          · exact absurd ho (own_no_ro (k5 d y h).2.2.2.2.1)
          · simp [own] at ho
          · exact .inr ⟨d, (memO hd hB).1, y, h, o1, o2, o3⟩
      · refine hms.kept q hq g1 fun d hd y hy hs ho => ?_
        rcases hM1 d y hy with h | ⟨_, rfl, _⟩ | ⟨hB, h, _⟩
        · exact own_no_ro (k5 d y h).2.2.2.2.1 ho
        · simp [own] at ho
        · exact g2 d (memO hd hB).1 y h hs ho
end
end Go.VM

namespace Go.VM
open Go Go.ChangeShapes Go.WideShapes Go.ChangeAt Go.RowKit Go.Deep
section
variable {H : Type} {enc : TypeId × Value → H} {P : Program}
theorem same_at {W W' : World} (hs : Same W W') {p : MemPlace} (hp : p.block < W.heap.size) : W.sameAt W' p := by
  have h := hs.2.2.2.2 p.block hp
  cases p with
  | cell b off => simp only [MemPlace.block] at h; simp [World.sameAt, World.cell?, h]
  | map b => simp only [MemPlace.block] at h; simp [World.sameAt, h]
theorem trodAll_carry {w w' : World} {base : Nat} {sp : Nat → Bool} {hd : Bool} : ∀ {ts : List TypeId} {vs : List Value} {ds : List (DataW H)} {ps : List MemPlace}, DataW.TrodAll enc P w base sp hd ts vs ds ps → (∀ p ∈ ps, w.sameAt w' p) → DataW.TrodAll enc P w' base sp hd ts vs ds ps
  | [], [], [], _, h, _ => h
  | _ :: _, _ :: _, _ :: _, _, ⟨p, q, ⟨n, h1⟩, h2, e⟩, hs => ⟨p, q, ⟨n, DataW.trod_carry n _ _ _ h1 (fun x hx => hs x (by rw [e]; exact List.mem_append_left _ hx))⟩, trodAll_carry h2 (fun x hx => hs x (by rw [e]; exact List.mem_append_right _ hx)), e⟩
theorem trodAll_len {w : World} {base : Nat} {sp : Nat → Bool} {hd : Bool} : ∀ {ts : List TypeId} {vs : List Value} {ds : List (DataW H)} {ps : List MemPlace}, DataW.TrodAll enc P w base sp hd ts vs ds ps → ds.length = ts.length ∧ vs.length = ts.length
  | [], [], [], _, _ => ⟨rfl, rfl⟩
  | _ :: _, _ :: _, _ :: _, _, ⟨_, _, _, h2, _⟩ => by
    obtain ⟨h3, h4⟩ := trodAll_len h2
    exact ⟨by simp [h3], by simp [h4]⟩
end
theorem law_lifted_any {H : Type} {enc : TypeId × Value → H} {C : Checked} {os : Os} {f : FuncId} {fn : Func} {s : ChangeSpec} {conds : List PathCond} {apart fresh handsOn again : Bool} {tb : TypeId}
    (own : ownKnob C.prog.godebug = none) (started : os.Started) (noInit : C.prog.inits.idxOf? f = none) (hfn : C.prog.funcs[f]? = some fn)
    (witness : ∃ (w : World) (tape : Tape) (i : Input), w.os = os ∧ (w.forCall tape i).Shaped C.prog ∧ i.vars = [] ∧ Input.okWide C.prog (w.forCall tape i) .any w.heap.size f i ∧
      s.pre6 enc C.prog fn conds apart (w.forCall tape i).memory i.args ∧ Assume.holds {} C.prog (lone (Frame.enter C.prog f i.args .normal) [] (w.forCall tape i)))
    (hlaid : laidOutB C.prog = true) (hmaps : mapsRowed C.prog = true) (hfull : ((List.range C.prog.types.size).all fun t => match C.prog.underlying t with | some (.slice e) => decide (0 < C.prog.cellsOf e) | _ => true) = true)
    (hts : ∀ t ∈ fn.params.toList, t < C.prog.types.size) (hvars : s.vars = []) (hres : fn.resultTypes = #[tb]) (htb : C.prog.underlying tb = some .bool)
    (hspec : ∀ ds : List (DataW H), ds.length = fn.params.size → s.fn H ds = { results := [.lit (.bool true)], args := ds })
    (walk : ∀ (W : World) (base : Nat) (args : Array Value) (ds : List (DataW H)) (ps : List MemPlace), DataW.TrodAll enc C.prog W 0 (fun _ => true) true fn.params.toList args.toList ds ps →
      (∀ (j : Nat) t v, fn.params[j]? = some t → args[j]? = some v → Value.okWide C.prog W .any base t v) → Calls C.prog f args W fun e W' => e = .returned (.bool true) ∧ Same W W') :
    ReturnsInHanded {} C os f .any (s.pre6 enc C.prog fn conds apart) (s.post enc C.prog fn apart fresh handsOn again) := by
  refine returnsInHanded_of_change own started noInit hfn witness ?_
  intro W base args ds gs before hval hW _ _
  have hW' := hW
  have hlt := hW.lt
  obtain ⟨p, q, hA, hV, rfl, _, _⟩ := hW
  rw [hvars] at hV
  obtain ⟨rfl, rfl⟩ := trodVars_none hV
  have hsp := hspec ds (by simpa using (trodAll_len hA).1)
  refine (walk W base args ds p hA hval).mono fun e W' ⟨he, hs⟩ => ⟨.bool true, he, ?_⟩
  have hsp' : s.fn H (ds ++ []) = { results := [.lit (.bool true)], args := ds } := by rw [List.append_nil]; exact hsp
  refine post_same (pa := p) (pv := []) hW' (fun b sp hd => ?_) (fun sp hb => ?_) (fun sp _ => ?_) rfl (hs.kept _) hs.2.2.2.1 ?_
  · rw [hsp', hres]; exact trodAll_mk1 (shut_bool htb true)
  · rw [hsp']
    exact trodAll_carry (DataW.TrodAll.respare (kids_rows hlaid hmaps) (slices_full_of _ hfull) hts hA (fun x hx => hb x (by simpa using hx))) (fun x hx => same_at hs (hlt x (by simpa using hx)))
  · rw [hsp', hvars]; rfl
  · exact ok_one hres rfl (okWide_bool_mk htb true)
section
variable {H : Type} {enc : TypeId × Value → H} {P : Program}
end
section
variable {H : Type} {enc : TypeId × Value → H} {P : Program}
end
theorem wf_u32 {z : Int} (h : (Lit.int .u32 z).wf = true) : 0 ≤ z ∧ z < 4294967296 := by
  simp [Lit.wf, IntKind.min, IntKind.max, IntKind.signed, IntKind.bits] at h
  omega
end Go.VM

namespace Go.VM
open Go Go.ChangeShapes Go.WideShapes Go.ChangeAt Go.RowKit
section
variable {H : Type} {enc : TypeId × Value → H} {P : Program}
theorem trod_oct {w : World} {b : Nat} {sp : Nat → Bool} {hd : Bool} {t e : TypeId} {n : Nat} (ht : P.underlying t = some (.array n e)) (he : P.underlying e = some (.int .u8)) (hc : P.cellsOf e = 1) (hct : P.cellsOf t = n)
    {fuel : Nat} {cs : List Value} {x : DataW H × List MemPlace} (h : DataW.trod enc P w b sp hd fuel t cs = some x) : ∃ l : List Int, (l.length = n ∧ ∀ x ∈ l, 0 ≤ x ∧ x < 256) ∧ cs = (VV.ints .u8 n l).cells id := by
  obtain ⟨g, g1, g2⟩ := trod_ints ht he hc hct h
  refine ⟨(List.range n).map g, ⟨by simp, ?_⟩, ?_⟩
  · intro x hx
    simp only [List.mem_map, List.mem_range] at hx
    obtain ⟨i, hi, rfl⟩ := hx
    exact wf_u8 (g1 i hi)
  · rw [g2]
    simp only [VV.cells]
    refine List.map_congr_left fun i hi => ?_
    have hi' : i < n := by simpa using hi
    congr 1
    simp [List.getD_eq_getElem?_getD, hi']
theorem trod_int {w : World} {b n : Nat} {sp : Nat → Bool} {hd : Bool} {e : TypeId} {k : IntKind} (he : P.underlying e = some (.int k)) {cs : List Value} {x : DataW H × List MemPlace} (h : DataW.trod enc P w b sp hd n e cs = some x) :
    ∃ z, (Lit.int k z).wf = true ∧ cs = (VV.int k z).cells id := by
  cases n with
  | zero => simp [DataW.trod] at h
  | succ n =>
    simp only [DataW.trod, he] at h
    split at h <;> try simp_all
    rename_i k' m _ hk
    obtain ⟨⟨rfl, hw⟩, _⟩ := h
    exact ⟨_, hw, rfl⟩
theorem reads_asked {t o u y g s : TypeId} (ho : P.underlying o = some (.array 32 u)) (hu : P.underlying u = some (.int .u8)) (hc : P.cellsOf u = 1 ∧ P.cellsOf o = 32) (hy : P.underlying y = some (.int .u64)) (hcy : P.cellsOf y = 1)
    (hg : P.underlying g = some (.array 16 u)) (hcg : P.cellsOf g = 16) (hs : P.underlying s = some (.int .u32)) (hcs' : P.cellsOf s = 1)
    {f0 f1 f2 f3 f4 f5 : Field} (ht : P.underlying t = some (.struct #[f0, f1, f2, f3, f4, f5])) (h0 : f0.type = o ∧ f0.offset = 0) (h1 : f1.type = y ∧ f1.offset = 32) (h2 : f2.type = u ∧ f2.offset = 33) (h3 : f3.type = g ∧ f3.offset = 34) (h4 : f4.type = g ∧ f4.offset = 50) (h5 : f5.type = s ∧ f5.offset = 66) (hcs : P.cellsOf t = 67)
    {W : World} {base : Nat} {v : Value} {d : DataW H} {ps : List MemPlace} (h : DataW.Trod enc P W 0 (fun _ => true) true t v d ps) (hok : Value.okWide P W .any base t v) :
    ∃ k : List Int, ∃ a b, ∃ l m : List Int, ∃ c, (k.length = 32 ∧ ∀ x ∈ k, 0 ≤ x ∧ x < 256) ∧ (Lit.int .u64 a).wf = true ∧ (0 ≤ b ∧ b < 256) ∧ (l.length = 16 ∧ ∀ x ∈ l, 0 ≤ x ∧ x < 256) ∧ (m.length = 16 ∧ ∀ x ∈ m, 0 ≤ x ∧ x < 256) ∧ (0 ≤ c ∧ c < 4294967296) ∧
      v = (VV.agg [.ints .u8 32 k, .int .u64 a, .int .u8 b, .ints .u8 16 l, .ints .u8 16 m, .int .u32 c]).den id := by
  obtain ⟨fuel, k1⟩ := h
  unfold Value.okWide at hok
  rw [ht] at hok
  obtain ⟨cs, rfl, _⟩ := hok
  obtain ⟨xs, mm, _, _, hl, hlen, hf⟩ := DataW.trod_struct ht k1
  match xs, hlen with
  | [y0, y1, y2, y3, y4, y5], _ =>
    have q0 := hf 0 f0 rfl
    have q1 := hf 1 f1 rfl
    have q2 := hf 2 f2 rfl
    have q3 := hf 3 f3 rfl
    have q4 := hf 4 f4 rfl
    have q5 := hf 5 f5 rfl
    simp only [h0.1, h0.2, h1.1, h1.2, h2.1, h2.2, h3.1, h3.2, h4.1, h4.2, h5.1, h5.2, hc.1, hc.2, hcy, hcg, hcs'] at q0 q1 q2 q3 q4 q5
    obtain ⟨k, hk, e0⟩ := trod_oct ho hu hc.1 hc.2 (show _ = some y0 from q0)
    obtain ⟨a, ha, e1⟩ := trod_int hy (show _ = some y1 from q1)
    obtain ⟨b, hb, e2⟩ := trod_int hu (show _ = some y2 from q2)
    obtain ⟨l, hll, e3⟩ := trod_oct hg hu hc.1 hcg (show _ = some y3 from q3)
    obtain ⟨m, hm, e4⟩ := trod_oct hg hu hc.1 hcg (show _ = some y4 from q4)
    obtain ⟨c, hcc, e5⟩ := trod_int hs (show _ = some y5 from q5)
    refine ⟨k, a, b, l, m, c, hk, ha, wf_u8 hb, hll, hm, wf_u32 hcc, ?_⟩
    show Value.agg cs = Value.agg (VV.cellss id _).toArray
    simp only [VV.cellss, List.append_nil]
    obtain ⟨L, hL⟩ : ∃ L, L = (Value.agg cs).cells.toList := ⟨_, rfl⟩
    rw [← hL] at e0 e1 e2 e3 e4 e5 hl
    have hend : (L.drop 66).take 1 = L.drop 66 := List.take_of_length_le (by simp; omega)
    have e : L = (L.drop 0).take 32 ++ ((L.drop 32).take 1 ++ ((L.drop 33).take 1 ++ ((L.drop 34).take 16 ++ ((L.drop 50).take 16 ++ (L.drop 66).take 1)))) := by
      rw [hend, ← cut_at _ 50 16, ← cut_at _ 34 16, ← cut_at _ 33 1, ← cut_at _ 32 1, ← cut_at _ 0 32]; rfl
    rw [e0, e1, e2, e3, e4, e5] at e
    rw [← e, hL]; rfl
end
end Go.VM

namespace Go.VM
section
variable {P : Program} {ρ : Nat → Nat} {p : Nat → Prop} {M : List (Nat × Blk)} {w : World}
def ViewOK (P : Program) (M : List (Nat × Blk)) (ρ : Nat → Nat) (p : Nat → Prop) (w : World) (n n1 : Nat) (vs vs1 : List VV) (B : List (Nat × Blk)) (rds : List Nat) : Prop :=
  ∃ ρ1 : Nat → Nat, (∀ i, ¬ (n ≤ i ∧ i < n1) → ρ1 i = ρ i) ∧ vs1.map (VV.den ρ1) = vs.map (VV.den ρ) ∧ (∀ u ∈ vs1, u.okL ∧ ∀ i ∈ u.ids, p i ∨ (n ≤ i ∧ i < n1)) ∧
    (∀ b x, getA B b = some x → Holds ρ1 w b x ∧ VV.mems x.1 = true ∧ (∀ i ∈ bids x, p i ∨ (n ≤ i ∧ i < n1)) ∧ isRo x.2.2 = true ∧ ∀ k, occ ρ1 b x k → ∃ d ∈ rds, ∃ y, getA M d = some y ∧ occ ρ d y k) ∧
    (∀ b ∈ rds, p b)
theorem view_core {f : FuncId} {E : Entry} (hE : EntryOK P f E) {α : Type} {vs vs1 : List VV} {B : List (Nat × Blk)} {rds : List Nat} {n n1 : Nat} {k : VV → ME → Option α} {r : α}
    (h2 : E α vs1 (B ++ hideM M rds M) n1 (fun v me => bif clean n n1 rds me.up && rdB n n1 B me.rd then k v { rd := rds ++ outside n n1 me.rd, up := me.up, nn := (n1 - n) + me.nn } else none) = some r)
    (hle : n ≤ n1) (hkeys : ∀ b x, getA B b = some x → n ≤ b ∧ b < n1) (hrds : ∀ b ∈ rds, (getA M b).isSome)
    (hV : ∀ ρ p w, (∀ u ∈ vs, u.okL ∧ ∀ i ∈ u.ids, p i) → (∀ b ∈ rds, MmOK ρ p M w b) → (∀ i, p i → ¬ (n ≤ i ∧ i < n1)) → ViewOK P M ρ p w n n1 vs vs1 B rds) :
    ∃ v me, k v me = some r ∧ CallOK P f vs M n v me := by
  obtain ⟨v, me1, h3, hcall⟩ := hE α vs1 _ n1 _ r h2
  cases hcl : (clean n n1 rds me1.up && rdB n n1 B me1.rd) with
  | false => simp [hcl] at h3
  | true =>
  simp only [hcl, cond_true] at h3
  simp only [Bool.and_eq_true] at hcl
  obtain ⟨hcl, hrdB⟩ := hcl
  obtain ⟨c1, c2, c3⟩ := hcall
  have hM1 : ∀ b x, getA (B ++ hideM M rds M) b = some x → getA B b = some x ∨ (getA B b = none ∧ x = ([], 0, .dead) ∧ b ∈ rds) ∨ (getA B b = none ∧ getA M b = some x ∧ (b ∈ rds → roAt M b = true)) := by
    intro b x hx
    rw [getA_append] at hx
    cases hb : getA B b with
    | some z => rw [hb] at hx; simp only [Option.some_or, Option.some.injEq] at hx; subst hx; exact .inl rfl
    | none =>
      rw [hb] at hx
      simp only [Option.none_or] at hx
      rcases hideM_get hx with ⟨a1, a2⟩ | ⟨a1, a2⟩
      · exact .inr (.inl ⟨rfl, a1, a2⟩)
      · exact .inr (.inr ⟨rfl, a1, a2⟩)
  refine ⟨v, _, h3, c1, fun b hb => ?_, fun ρ p w hu hmm hpart hpn hgd => ?_⟩
  · rcases List.mem_append.1 hb with hb | hb
    · exact hrds b hb
    · obtain ⟨hb1, hb2⟩ := outside_iff.1 hb
      obtain ⟨x, hx⟩ := Option.isSome_iff_exists.1 (c2 b hb1)
      rcases hM1 b x hx with h | ⟨_, _, h⟩ | ⟨_, h, _⟩
      · exact absurd (hkeys b x h) hb2
      · exact hrds b h
      · rw [h]; rfl
  · have hmmR : ∀ b ∈ rds, MmOK ρ p M w b := fun b hb => hmm b (List.mem_append.2 (.inl hb))
    have hpn0 : ∀ i, p i → ¬ (n ≤ i ∧ i < n1) := fun i hi h => hpn i hi ⟨h.1, by simp only; omega⟩
    obtain ⟨ρ1, k2, k3, k4, k5, k6⟩ := hV ρ p w hu hmmR hpn0
    have hρ1 : ∀ i, p i → ρ1 i = ρ i := fun i hi => k2 i (hpn0 i hi)
    have memO : ∀ {b}, b ∈ me1.rd → getA B b = none → b ∈ rds ++ outside n n1 me1.rd ∧ ¬ (n ≤ b ∧ b < n1) := fun hb hB =>
      have h := rdB_spec hrdB hb hB
      ⟨List.mem_append.2 (.inr (outside_iff.2 ⟨hb, h⟩)), h⟩
    have ownO : ∀ {b x}, b ∈ me1.rd → getA B b = none → getA M b = some x → ∀ k, own ρ1 b x k ↔ own ρ b x k := fun {b x} hb hB hx k =>
      own_congr (k2 b (memO hb hB).2) fun i hi => hρ1 i ((hmm b (memO hb hB).1 x hx).2.2 i hi)
    have occO : ∀ {b x}, b ∈ me1.rd → getA B b = none → getA M b = some x → ∀ k, occ ρ1 b x k ↔ occ ρ b x k := fun {b x} hb hB hx k =>
      occ_congr (k2 b (memO hb hB).2) fun i hi => hρ1 i ((hmm b (memO hb hB).1 x hx).2.2 i hi)
    obtain ⟨rs1, calls⟩ := c3 ρ1 (fun i => p i ∨ (n ≤ i ∧ i < n1)) w k4 (fun b hb blk hblk => by
        rcases hM1 b blk hblk with h | ⟨_, rfl, _⟩ | ⟨hB, h, _⟩
        · obtain ⟨a2, a3, a4, _⟩ := k5 b blk h
          exact ⟨a2, a3, a4⟩
        · exact ⟨rfl, rfl, fun i hi => by simp [bids, VV.idss] at hi⟩
        · obtain ⟨m1, m2, m3⟩ := hmm b (memO hb hB).1 blk h
          exact ⟨m1.congr (k2 b (memO hb hB).2) (fun i hi => hρ1 i (m3 i hi)) fun _ _ => rfl, m2, fun i hi => .inl (m3 i hi)⟩)
      (fun b c hb hc hbc x y hx hy q ho hoc => by
        rcases hM1 b x hx with h | ⟨_, rfl, _⟩ | ⟨hB, h, hr⟩
        · exact own_no_ro (k5 b x h).2.2.2.1 ho
        · simp [own] at ho
        · have ho' := (ownO hb hB h q).1 ho
          rcases hM1 c y hy with h' | ⟨_, rfl, _⟩ | ⟨hB', h', _⟩
          · obtain ⟨d, hd, z, hz, hoz⟩ := (k5 c y h').2.2.2.2 q hoc
            have hbd : b ≠ d := by
              rintro rfl
              have := hr hd
              simp only [roAt, h] at this
              exact own_no_ro this ho
            exact hpart b d (memO hb hB).1 (List.mem_append.2 (.inl hd)) hbd x z h hz q ho' hoz
          · simp [occ, own] at hoc
          · exact hpart b c (memO hb hB).1 (memO hc hB').1 hbc x y h h' q ho' ((occO hc hB' h' q).1 hoc))
      (fun i hi => by
        rcases hi with hi | hi
        · intro hin; exact hpn i hi ⟨by omega, by simp only; omega⟩
        · omega)
      ⟨hgd.1, fun b hb x hx q ho g hg => by
        rcases hM1 b x hx with h | ⟨_, rfl, _⟩ | ⟨hB, h, _⟩
        · exact absurd ho (own_no_ro (k5 b x h).2.2.2.1)
        · simp [own] at ho
        · exact hgd.2 b (memO hb hB).1 x h q ((ownO hb hB h q).1 ho) g hg⟩
    have hids : ∀ i, (p i ∨ (n ≤ i ∧ i < n1)) ∨ (n1 ≤ i ∧ i < n1 + me1.nn) → p i ∨ (n ≤ i ∧ i < n + (n1 - n + me1.nn)) := by
      rintro i ((h | h) | h)
      · exact .inl h
      · exact .inr ⟨h.1, by omega⟩
      · exact .inr ⟨by omega, by omega⟩
    refine ⟨⟨rs1.ok, fun i hi => hids i (rs1.ids i hi), fun b blk hb => ?_, fun b hb => ?_⟩, ?_⟩
    · obtain ⟨u1, u2, u3⟩ := rs1.up b blk hb
      refine ⟨?_, u2, fun i hi => hids i (u3 i hi)⟩
      rcases u1 with u1 | u1
      · exact .inl (List.mem_append.2 (.inr (outside_iff.2 ⟨u1, (clean_get hcl hb).2.2⟩)))
      · exact .inr ⟨by omega, by simp only; omega⟩
    · rcases List.mem_append.1 hb with hb | hb
      · exact k6 b hb
      · obtain ⟨hb1, hb2⟩ := outside_iff.1 hb
        rcases rs1.rd b hb1 with h | h
        · exact h
        · exact absurd h hb2
    · rw [k3] at calls
      refine calls.mono fun e w' ⟨ρ', he, hag, hms⟩ => ⟨ρ', he, fun i hi => by
        rw [hag i (fun h => hi ⟨by omega, by simp only; omega⟩), k2 i (fun h => hi ⟨h.1, by simp only; omega⟩)], ⟨hms.os, hms.tape, hms.output, hms.size, hms.at', fun b x hx q hq => ?_, hms.cross, fun q hq g1 g2 => ?_⟩⟩
      · rcases hms.src b x hx q hq with h | ⟨d, hd, y, hy, o1, o2, o3⟩
        · exact .inl h
        · have ho := o2 (occ_not_ro (clean_get hcl hx).1 hq)
          rcases hM1 d y hy with h | ⟨_, rfl, _⟩ | ⟨hB, h, _⟩
          · exact absurd ho (own_no_ro (k5 d y h).2.2.2.1)
          · simp [own] at ho
          · exact .inr ⟨d, (memO hd hB).1, y, h, o1, o2, o3⟩
      · refine hms.kept q hq g1 fun d hd y hy hs ho => ?_
        rcases hM1 d y hy with h | ⟨_, rfl, _⟩ | ⟨hB, h, _⟩
        · exact own_no_ro (k5 d y h).2.2.2.1 ho
        · simp [own] at ho
        · exact g2 d (memO hd hB).1 y h hs ho
theorem view_at {v : VV} {rs : List VV} {m : Nat} {rd : List Nat} (h : srcS M v = some (true, rs, m, rd)) (hs : isStr v = false) (hroom : roomy v = true) (hmm : ∀ b ∈ rd, MmOK ρ p M w b) :
    ∃ q g, (VV.den ρ v = vwV (dec q) g 0 m) ∧ (m ≠ 0 → ∃ pre tail t fz, w.heap[(dec q).1]? = some (.cells (pre ++ VV.cellss ρ rs ++ tail).toArray t fz) ∧ pre.length = (dec q).2 ∧ ∃ d ∈ rd, ∃ y, getA M d = some y ∧ occ ρ d y (dec q).1) := by
  obtain ⟨ad, cap, t1, t2, t3, t4, t5, t6⟩ := srcS_at (w := w) h hs hroom hmm
  cases had : ad with
  | none =>
    obtain ⟨g, hg⟩ := view_onto (q := dec 0) (ad := none) (off := 0) (len := m) (cap := cap) t2 (fun _ => t3 had) (fun x hx => by cases hx)
    refine ⟨0, g, by rw [t1, had]; exact hg, fun h0 => ?_⟩
    have := t3 had
    omega
  | some x =>
    obtain ⟨gb, o, rfl⟩ := t4 x had
    obtain ⟨q, hq⟩ := dec_onto gb o
    obtain ⟨g, hg⟩ := view_onto (q := dec q) (ad := some ⟨gb, o, none⟩) (off := 0) (len := m) (cap := cap) t2 (fun h => by cases h) (fun x hx => by
      simp only [Option.some.injEq] at hx
      refine ⟨o, by rw [hq]; exact hx.symm, fun _ => by rw [hq]; rfl⟩)
    refine ⟨q, g, by rw [t1, had]; exact hg, fun h0 => ?_⟩
    obtain ⟨g', o', pre, tail, t, fz, e1, e2, e3, e4⟩ := t6 h0
    rw [had] at e1
    simp only [Option.some.injEq, Addr.mk.injEq, and_true] at e1
    obtain ⟨rfl, rfl⟩ := e1
    rw [hq]
    exact ⟨pre, tail, t, fz, e2, e3, e4⟩
def viewR (k : IntKind) (M : List (Nat × Blk)) : List VV → Nat → Option (Bool × List VV × List (Nat × Blk) × List Nat × Nat)
  | [], n => some (true, [], [], [], n)
  | v :: l, n => bif isStr v then none else (srcS M v).bind fun q => (viewR k M l (n + 2)).map fun r =>
      (q.1 && roomy v && r.1, .vw true n 0 q.2.2.1 (n + 1) :: r.2.1, (n, (fixR k q.2.1, 0, .ro)) :: r.2.2.1, q.2.2.2 ++ r.2.2.2.1, r.2.2.2.2)
def rowsE (i : Nat) (kd : IntKind) (E : Entry) : Entry := fun α vs M n k =>
  (vs[i]?).bind fun v => bif isStr v then none else (srcS M v).bind fun q => (viewR kd M q.2.1 (n + 2)).bind fun r => bif q.1 && roomy v && r.1 then
    E α (vs.set i (.vw true n 0 q.2.2.1 (n + 1))) (((n, (r.2.1, 0, .ro)) :: r.2.2.1) ++ hideM M (q.2.2.2 ++ r.2.2.2.1) M) r.2.2.2.2
      (fun v me => bif clean n r.2.2.2.2 (q.2.2.2 ++ r.2.2.2.1) me.up && rdB n r.2.2.2.2 ((n, (r.2.1, 0, .ro)) :: r.2.2.1) me.rd then
        k v { rd := (q.2.2.2 ++ r.2.2.2.1) ++ outside n r.2.2.2.2 me.rd, up := me.up, nn := (r.2.2.2.2 - n) + me.nn } else none) else none
theorem viewR_le {k : IntKind} : ∀ (l : List VV) (n : Nat) r, viewR k M l n = some r → n ≤ r.2.2.2.2 := by
  intro l
  induction l with
  | nil => intro n r h; simp only [viewR, Option.some.injEq] at h; subst h; exact Nat.le_refl _
  | cons v l ih =>
    intro n r h
    simp only [viewR] at h
    cases hs : isStr v with
    | true => simp [hs] at h
    | false =>
      rw [hs] at h
      simp only [cond_false] at h
      obtain ⟨q, _, h4⟩ := Option.bind_eq_some_iff.1 h
      obtain ⟨r', h5, h6⟩ := Option.map_eq_some_iff.1 h4
      have := ih _ _ h5
      subst h6
      show n ≤ r'.2.2.2.2
      omega
theorem viewR_rds {k : IntKind} : ∀ (l : List VV) (n : Nat) r, viewR k M l n = some r → ∀ b ∈ r.2.2.2.1, (getA M b).isSome := by
  intro l
  induction l with
  | nil => intro n r h; simp only [viewR, Option.some.injEq] at h; subst h; simp
  | cons v l ih =>
    intro n r h
    simp only [viewR] at h
    cases hs : isStr v with
    | true => simp [hs] at h
    | false =>
      rw [hs] at h
      simp only [cond_false] at h
      obtain ⟨q, h3, h4⟩ := Option.bind_eq_some_iff.1 h
      obtain ⟨r', h5, h6⟩ := Option.map_eq_some_iff.1 h4
      subst h6
      intro b hb
      rcases List.mem_append.1 hb with hb | hb
      · exact (srcS_rd h3 b hb).1
      · exact ih _ _ h5 b hb
theorem viewR_keys {k : IntKind} : ∀ (l : List VV) (n : Nat) r, viewR k M l n = some r → ∀ b x, getA r.2.2.1 b = some x → n ≤ b ∧ b < r.2.2.2.2 := by
  intro l
  induction l with
  | nil => intro n r h; simp only [viewR, Option.some.injEq] at h; subst h; intro b x hx; simp [getA] at hx
  | cons v l ih =>
    intro n r h
    have hle := viewR_le _ _ _ h
    simp only [viewR] at h
    cases hs : isStr v with
    | true => simp [hs] at h
    | false =>
      rw [hs] at h
      simp only [cond_false] at h
      obtain ⟨q, h3, h4⟩ := Option.bind_eq_some_iff.1 h
      obtain ⟨r', h5, h6⟩ := Option.map_eq_some_iff.1 h4
      have hle' := viewR_le _ _ _ h5
      have := ih _ _ h5
      subst h6
      intro b x hx
      simp only [getA] at hx
      cases hb : Nat.beq n b with
      | true =>
        have : n = b := by simpa using hb
        subst this
        exact ⟨Nat.le_refl _, by show n < r'.2.2.2.2; omega⟩
      | false =>
        simp only [hb, cond_false] at hx
        obtain ⟨a1, a2⟩ := this b x hx
        exact ⟨by omega, a2⟩
theorem viewR_spec (P : Program) {k : IntKind} {ρ0 : Nat → Nat} {p : Nat → Prop} {n0 : Nat} : ∀ (l : List VV) (n : Nat) (ρ : Nat → Nat) {vs1 : List VV} {B : List (Nat × Blk)} {rds : List Nat} {n1 : Nat},
    viewR k M l n = some (true, vs1, B, rds, n1) → n0 ≤ n → (∀ i, p i → ρ i = ρ0 i) → (∀ u ∈ l, u.one = true ∧ ∀ i ∈ u.ids, p i) → (∀ b ∈ rds, MmOK ρ0 p M w b) → (∀ i, p i → ¬ (n0 ≤ i ∧ i < n1)) →
    ∃ ρ1, (∀ i, ¬ (n ≤ i ∧ i < n1) → ρ1 i = ρ i) ∧ VV.cellss ρ1 vs1 = VV.cellss ρ0 l ∧ VV.mems vs1 = true ∧ (∀ i ∈ VV.idss vs1, n ≤ i ∧ i < n1) ∧
      (∀ b x, getA B b = some x → (n ≤ b ∧ b < n1) ∧ Holds ρ1 w b x ∧ VV.mems x.1 = true ∧ (∀ i ∈ bids x, p i) ∧ isRo x.2.2 = true ∧ ∀ k, occ ρ1 b x k → ∃ d ∈ rds, ∃ y, getA M d = some y ∧ occ ρ0 d y k) ∧
      (∀ b ∈ rds, p b)
  | [], n, ρ, vs1, B, rds, n1, h, _, _, _, _, _ => by
    simp only [viewR, Option.some.injEq, Prod.mk.injEq, true_and] at h
    obtain ⟨rfl, rfl, rfl, rfl⟩ := h
    exact ⟨ρ, fun _ _ => rfl, rfl, rfl, by simp [VV.idss], fun _ _ h => by simp [getA] at h, by simp⟩
  | v :: l, n, ρ, vs1, B, rds, n1, h, hn0, hρ, hu, hmm, hpn => by
    simp only [viewR] at h
    cases hs : isStr v with
    | true => simp [hs] at h
    | false =>
    rw [hs] at h
    simp only [cond_false] at h
    obtain ⟨⟨f, rs, m, rd⟩, h3, h4⟩ := Option.bind_eq_some_iff.1 h
    obtain ⟨⟨f', vs', B', rds', n'⟩, h5, h6⟩ := Option.map_eq_some_iff.1 h4
    simp only [Prod.mk.injEq, Bool.and_eq_true] at h6
    obtain ⟨⟨⟨rfl, hroom⟩, rfl⟩, rfl, rfl, rfl, rfl⟩ := h6
    obtain ⟨v1, v2⟩ := hu v (by simp)
    obtain ⟨s1, s2, s3, s4, s5⟩ := srcS_spec (P := P) (w := w) h3 (fun b hb => hmm b (List.mem_append.2 (.inl hb))) v2
    obtain ⟨q, g, hden, hat⟩ := view_at (w := w) h3 hs hroom (fun b hb => hmm b (List.mem_append.2 (.inl hb)))
    have hle : n + 2 ≤ n' := viewR_le _ _ _ h5
    let ρ' : Nat → Nat := fun j => if j = n then q else if j = n + 1 then g else ρ j
    have hag : ∀ j, ¬ (n ≤ j ∧ j < n + 2) → ρ' j = ρ j := fun j hj => by
      show (if j = n then _ else if j = n + 1 then _ else ρ j) = ρ j
      rw [if_neg (by omega), if_neg (by omega)]
    have r0 : ρ' n = q := by show (if n = n then _ else _) = _; simp
    have r1 : ρ' (n + 1) = g := by show (if n + 1 = n then _ else if n + 1 = n + 1 then _ else _) = _; simp
    have hpn' : ∀ j, p j → ¬ (n ≤ j ∧ j < n') := fun j hj h => hpn j hj ⟨by omega, h.2⟩
    have hpρ : ∀ j, p j → ρ' j = ρ j := fun j hj => hag j (fun ⟨a1, a2⟩ => hpn' j hj ⟨a1, by omega⟩)
    obtain ⟨ρ1, k2, k3, k3m, k4, k5, k6⟩ := viewR_spec P l (n + 2) ρ' h5 (by omega) (fun j hj => (hpρ j hj).trans (hρ j hj)) (fun u hu' => hu u (List.mem_cons_of_mem _ hu')) (fun b hb => hmm b (List.mem_append.2 (.inr hb))) hpn
    have e0 : ρ1 n = q := by rw [k2 n (by omega), r0]
    have e1 : ρ1 (n + 1) = g := by rw [k2 (n + 1) (by omega), r1]
    refine ⟨ρ1, fun j hj => by rw [k2 j (fun h => hj ⟨by omega, h.2⟩)]; exact hag j (fun h => hj ⟨h.1, by omega⟩), ?_, ?_, ?_, fun b x hx => ?_, fun b hb => ?_⟩
    · simp only [VV.cellss, k3]
      rw [one_cells (ρ := ρ0) v1, hden]
      simp only [VV.cells, e0, e1, baseOf, cond_true]
    · simp only [VV.mems, VV.mem, k3m, Bool.true_and]
    · intro i hi
      simp only [VV.idss, VV.ids, List.mem_append, List.mem_cons, List.not_mem_nil, or_false] at hi
      rcases hi with (rfl | rfl) | hi
      · omega
      · omega
      · have := k4 i hi; omega
    · simp only [getA] at hx
      cases hb : Nat.beq n b with
      | true =>
        have : n = b := by simpa using hb
        subst this
        simp only [hb, cond_true, Option.some.injEq] at hx
        subst hx
        have ec : VV.cellss ρ1 (fixR k rs) = VV.cellss ρ0 rs := by
          rw [(fixR_spec k rs ρ1).1]
          exact cellss_congr rs fun j hj => by
            have hpj := s4 j hj
            rw [k2 j (fun h => hpn' j hpj ⟨by omega, h.2⟩), hpρ j hpj, hρ j hpj]
        have hwf := (fixR_spec k rs ρ1).2.1
        refine ⟨⟨Nat.le_refl _, by omega⟩, ?_, by rw [(fixR_spec k rs ρ1).2.2.1]; exact s3, fun j hj => s4 j (by rw [← (fixR_spec k rs ρ1).2.2.2]; simpa [bids] using hj), rfl, fun k' hk => ?_⟩
        · simp only [Holds]
          intro h0
          obtain ⟨pre, tail, t, fz, g1, g2, _⟩ := hat (by omega)
          exact ⟨pre, tail, t, fz, by rw [e0, ec]; exact g1, by rw [e0]; exact g2⟩
        · simp only [occ, e0] at hk
          obtain ⟨pre, tail, t, fz, _, _, d, hd, y, hy, ho⟩ := hat (by omega)
          exact ⟨d, List.mem_append.2 (.inl hd), y, hy, by rw [hk.2]; exact ho⟩
      | false =>
        simp only [hb, cond_false] at hx
        obtain ⟨a1, a2, a3, a4, a5, a6⟩ := k5 b x hx
        refine ⟨⟨by omega, a1.2⟩, a2, a3, a4, a5, fun k' hk => ?_⟩
        obtain ⟨d, hd, y, hy, ho⟩ := a6 k' hk
        exact ⟨d, List.mem_append.2 (.inr hd), y, hy, ho⟩
    · rcases List.mem_append.1 hb with hb | hb
      · exact s5 b hb
      · exact k6 b hb
theorem viewR_one {k : IntKind} : ∀ (l : List VV) (n : Nat) r, viewR k M l n = some r → ∀ u ∈ l, u.one = true := by
  intro l
  induction l with
  | nil => intro n r _; simp
  | cons v l ih =>
    intro n r h
    simp only [viewR] at h
    cases hs : isStr v with
    | true => simp [hs] at h
    | false =>
      rw [hs] at h
      simp only [cond_false] at h
      obtain ⟨q, h3, h4⟩ := Option.bind_eq_some_iff.1 h
      obtain ⟨r', h5, _⟩ := Option.map_eq_some_iff.1 h4
      intro u hu
      rcases List.mem_cons.1 hu with rfl | hu
      · cases u <;> first | rfl | (simp [srcS] at h3)
      · exact ih _ _ h5 u hu
theorem rows_ok {f : FuncId} {i : Nat} {kd : IntKind} {E : Entry} (hE : EntryOK P f E) : EntryOK P f (rowsE i kd E) := by
  intro α vs M n k r h
  simp only [rowsE] at h
  obtain ⟨v, h1, h2⟩ := Option.bind_eq_some_iff.1 h
  cases hs : isStr v with
  | true => simp [hs] at h2
  | false =>
  rw [hs] at h2
  simp only [cond_false] at h2
  obtain ⟨⟨f0, rs, m, rd⟩, h3, h4⟩ := Option.bind_eq_some_iff.1 h2
  obtain ⟨⟨f1, vs1, B, rds, n1⟩, h5, h6⟩ := Option.bind_eq_some_iff.1 h4
  cases hb : (f0 && roomy v && f1) with
  | false => simp [hb] at h6
  | true =>
  simp only [hb, cond_true] at h6
  simp only [Bool.and_eq_true] at hb
  obtain ⟨⟨rfl, hroom⟩, rfl⟩ := hb
  have hle : n + 2 ≤ n1 := viewR_le _ _ _ h5
  refine view_core hE h6 (by omega) (fun b x hx => ?_) (fun b hb => ?_) fun ρ p w hu hmm hpn => ?_
  · simp only [getA] at hx
    cases hb : Nat.beq n b with
    | true => have : n = b := by simpa using hb
              omega
    | false =>
      simp only [hb, cond_false] at hx
      have := viewR_keys _ _ _ h5 b x hx
      simp only at this
      omega
  · rcases List.mem_append.1 hb with hb | hb
    · exact (srcS_rd h3 b hb).1
    · exact viewR_rds _ _ _ h5 b hb
  · have hv := List.mem_of_getElem? h1
    obtain ⟨v1, v2⟩ := hu v hv
    have hmm1 : ∀ b ∈ rd, MmOK ρ p M w b := fun b hb => hmm b (List.mem_append.2 (.inl hb))
    obtain ⟨s1, s2, s3, s4, s5⟩ := srcS_spec (P := P) (w := w) h3 hmm1 v2
    obtain ⟨q, g, hden, hat⟩ := view_at (w := w) h3 hs hroom hmm1
    have hone := viewR_one _ _ _ h5
    let ρ' : Nat → Nat := fun j => if j = n then q else if j = n + 1 then g else ρ j
    have hag : ∀ j, ¬ (n ≤ j ∧ j < n + 2) → ρ' j = ρ j := fun j hj => by
      show (if j = n then _ else if j = n + 1 then _ else ρ j) = ρ j
      rw [if_neg (by omega), if_neg (by omega)]
    have r0 : ρ' n = q := by show (if n = n then _ else _) = _; simp
    have r1 : ρ' (n + 1) = g := by show (if n + 1 = n then _ else if n + 1 = n + 1 then _ else _) = _; simp
    have hpρ : ∀ j, p j → ρ' j = ρ j := fun j hj => hag j (fun ⟨a1, a2⟩ => hpn j hj ⟨a1, by omega⟩)
    obtain ⟨ρ1, k2, k3, k3m, k4, k5, k6⟩ := viewR_spec P (w := w) (n0 := n) (ρ0 := ρ) (p := p) rs (n + 2) ρ' h5 (by omega) hpρ (fun u hu' => ⟨hone u hu', fun i hi => s4 i (mem_idss.2 ⟨u, hu', hi⟩)⟩) (fun b hb => hmm b (List.mem_append.2 (.inr hb))) hpn
    have e0 : ρ1 n = q := by rw [k2 n (by omega), r0]
    have e1 : ρ1 (n + 1) = g := by rw [k2 (n + 1) (by omega), r1]
    have hpρ1 : ∀ j, p j → ρ1 j = ρ j := fun j hj => by rw [k2 j (fun h => hpn j hj ⟨by omega, h.2⟩), hpρ j hj]
    refine ⟨ρ1, fun j hj => by rw [k2 j (fun h => hj ⟨by omega, h.2⟩)]; exact hag j (fun h => hj ⟨h.1, by omega⟩), ?_, fun u hu' => ?_, fun b x hx => ?_, fun b hb => ?_⟩
    · refine List.ext_getElem? fun j => ?_
      simp only [List.getElem?_map, List.getElem?_set]
      by_cases hj : i = j
      · subst hj
        have hlt := (List.getElem?_eq_some_iff.1 h1).1
        simp only [if_true, hlt, h1, Option.map_some]
        congr 1
        rw [hden]
        simp only [VV.den, VV.den0, VV.cells, List.headD_cons, e0, e1, baseOf, cond_true]
      · rw [if_neg hj]
        cases hq : vs[j]? with
        | none => rfl
        | some u =>
          simp only [Option.map_some, Option.some.injEq]
          exact den_congr u fun y hy => hpρ1 y ((hu u (List.mem_of_getElem? hq)).2 y hy)
    · rcases List.mem_or_eq_of_mem_set hu' with h | rfl
      · exact ⟨(hu u h).1, fun j hj => .inl ((hu u h).2 j hj)⟩
      · refine ⟨rfl, fun j hj => .inr ?_⟩
        simp only [VV.ids, List.mem_cons, List.not_mem_nil, or_false] at hj
        omega
    · simp only [getA] at hx
      cases hb : Nat.beq n b with
      | true =>
        have : n = b := by simpa using hb
        subst this
        simp only [hb, cond_true, Option.some.injEq] at hx
        subst hx
        have hwr : VV.ws vs1 = VV.ws rs := by rw [← cellss_length ρ1, k3, cellss_length]
        refine ⟨?_, k3m, fun j hj => .inr ?_, rfl, fun k' hk => ?_⟩
        · simp only [Holds]
          intro h0
          obtain ⟨pre, tail, t, fz, g1, g2, _⟩ := hat (by omega)
          exact ⟨pre, tail, t, fz, by rw [e0, k3]; exact g1, by rw [e0]; exact g2⟩
        · have := k4 j (by simpa [bids] using hj)
          omega
        · simp only [occ, e0] at hk
          obtain ⟨pre, tail, t, fz, _, _, d, hd, y, hy, ho⟩ := hat (by omega)
          exact ⟨d, List.mem_append.2 (.inl hd), y, hy, by rw [hk.2]; exact ho⟩
      | false =>
        simp only [hb, cond_false] at hx
        obtain ⟨a1, a2, a3, a4, a5, a6⟩ := k5 b x hx
        refine ⟨a2, a3, fun j hj => .inl (a4 j hj), a5, fun k' hk => ?_⟩
        obtain ⟨d, hd, y, hy, ho⟩ := a6 k' hk
        exact ⟨d, List.mem_append.2 (.inr hd), y, hy, ho⟩
    · rcases List.mem_append.1 hb with hb | hb
      · exact s5 b hb
      · exact k6 b hb
end
abbrev Fit := List VV → List (Nat × Blk) → Nat → Bool
def fitE (m : Nat) {X : Type} (inA : VS → Option X) : Fit := fun vs M _ => orE.fits m inA vs M
def fitR (i : Nat) (kd : IntKind) (F : Fit) : Fit := fun vs M n => match (vs[i]?).bind fun v => bif isStr v then none else (srcS M v).bind fun q => (viewR kd M q.2.1 (n + 2)).map fun r => (q, r) with
  | some (q, r) => F (vs.set i (.vw true n 0 q.2.2.1 (n + 1))) (((n, (r.2.1, 0, .ro)) :: r.2.2.1) ++ hideM M (q.2.2.2 ++ r.2.2.2.1) M) r.2.2.2.2
  | none => false
def orF (F : Fit) (e1 e2 : Entry) : Entry := fun α vs M n k => bif F vs M n then e1 α vs M n k else e2 α vs M n k
theorem orF_ok {P : Program} {f : FuncId} {F : Fit} {e1 e2 : Entry} (h1 : EntryOK P f e1) (h2 : EntryOK P f e2) : EntryOK P f (orF F e1 e2) := by
  intro α vs M n k r h
  simp only [orF] at h
  cases hb : F vs M n with
  | true => rw [hb] at h; exact h1 α vs M n k r h
  | false => rw [hb] at h; exact h2 α vs M n k r h
end Go.VM

namespace Go.VM
def Does (P : Program) (f : FuncId) (m : Nat) (vs : List VV) (M0 : List (Nat × Blk)) (t : VS) : Prop :=
  m ≤ t.n ∧ (∀ b x, getA t.M b = some x → b < t.n ∧ ∀ i ∈ bids x, i < t.n) ∧ ∀ v, getA t.L 0 = some v → v.okL ∧ (∀ i ∈ v.ids, i < t.n) ∧ ∀ (ρ : Nat → Nat) (w : World), (∀ u ∈ vs, u.okL ∧ ∀ i ∈ u.ids, i < m) →
    (∀ b x, getA M0 b = some x → Holds ρ w b x ∧ VV.mems x.1 = true ∧ (∀ i ∈ bids x, i < m) ∧ b < m) → (∀ b d, b ≠ d → Parted ρ (getA M0) b d) → (GL w ∧ ∀ b x, getA M0 b = some x → ∀ k, own ρ b x k → ∀ g ∈ globs, g.1 ≠ k) →
    Calls P f (vs.map (VV.den ρ)).toArray w fun e w' => ∃ ρ', e = .returned (v.den ρ') ∧ Left m M0 t ρ ρ' w w'
theorem hand_ok {P : Program} {f : FuncId} {fn : Func} {c : Code} (hf : P.funcs[f]? = some fn) (hb : fn.body = some c) (hname : (fn.name == "runtime.NumGoroutine") = false) {m : Nat}
    {X Y : Type} {av : X → List VV} {bl : X → List (Nat × Blk)} {inA : VS → Option X} {F : X → Option Y} {out : Y → VS} {des : ∀ α : Type, Y → (VS → Option α) → Option α}
    (hA : ∀ s x, inA s = some x → s = ⟨initL 0 (av x), bl x, m⟩) (hdes : ∀ α y k, des α y k = k (out y))
    (hF : ∀ x y, F x = some y → Does P f m (av x) (bl x) (out y)) : EntryOK P f (genE m inA F des) := by
  intro α vs M n k r h
  simp only [genE, genE.genW] at h
  generalize hord : orderOf 0 M (VV.idss vs) = ord at h
  cases hlen : Nat.beq ord.length m with
  | false => simp [hlen] at h
  | true =>
  have hlen' : ord.length = m := by simpa using hlen
  simp only [hlen, cond_true] at h
  obtain ⟨s, hs, h⟩ := Option.bind_eq_some_iff.1 h
  obtain ⟨x, hx, h⟩ := Option.bind_eq_some_iff.1 h
  obtain ⟨y, hy, h⟩ := Option.bind_eq_some_iff.1 h
  rw [hdes] at h
  have hren := canonW_spec hs
  have hsx := hA s x hx
  obtain ⟨hmt, hstat, ht2⟩ := hF x y hy
  generalize out y = t at *

  unfold finE at h
  split at h
  case h_2 => cases h
  rename_i v hL
  have hv : getA t.L 0 = some v := by rw [hL]; simp [getA]
  obtain ⟨hok, hvi, hcall⟩ := ht2 v hv
  cases hkeys : (keysIn (renM (outR ord m n) (noRo t.M t.M)) (ownL M (hasM M ord)) && oldIn (hasM M ord) ord m t.M && memsM t.M) with
  | false => simp [hkeys] at h
  | true =>
  simp only [hkeys, cond_true] at h
  simp only [Bool.and_eq_true] at hkeys
  obtain ⟨⟨hk1, hk2⟩, hk3⟩ := hkeys

  obtain ⟨τ, hτ1, hτ2⟩ := hren.Lre
  have hav : av x = vs.map (VV.ren τ) := by
    rw [hsx, initL_ren] at hτ1
    exact initL_inj hτ1
  have hvids : ∀ u ∈ vs, ∀ i ∈ u.ids, ord.getD (τ i) 0 = i ∧ τ i < ord.length := fun u hu i hi => by
    obtain ⟨t, ht⟩ := initL_mem (i := 0) hu
    exact hτ2 (t, u) ht i hi
  have hM : s.M = bl x := by rw [hsx]
  refine ⟨_, _, h, ⟨fn, hf, hname, by rw [hb]; rfl⟩, fun b hb => (hasM_iff.1 hb).2, fun ρ p w hu hmm hinj hpn hgd => ?_⟩
  have hordp : ∀ i ∈ ord, p i := by
    rw [← hord]
    refine reach_p (fun j hj => ?_) fun b hb x hx j hj => ?_
    · rcases insNew_mem.1 hj with hj | hj
      · simp at hj
      · obtain ⟨u, hu1, hu2⟩ := mem_idss.1 hj
        exact (hu u hu1).2 j hu2
    · refine (hmm b (hasM_iff.2 ⟨?_, by simp [hx]⟩) x hx).2.2 j hj
      rw [← hord]; exact hb
  have hσp : ∀ i, i < m → p (ord.getD i 0) := fun i hi => hordp _ (by
    rw [List.getD_eq_getElem?_getD, List.getElem?_eq_getElem (by omega)]; exact List.getElem_mem _)
  have hRp : ∀ j, j < t.n → p (outR ord m n j) ∨ (n ≤ outR ord m n j ∧ outR ord m n j < n + (t.n - m)) := by
    intro j hj
    unfold outR
    cases hb : Nat.blt j m with
    | true => simp only [cond_true]; exact .inl (hσp j (by simpa [Nat.blt_eq] using hb))
    | false =>
      simp only [cond_false]
      have : ¬ j < m := by intro hlt; have : Nat.blt j m = true := by simpa [Nat.blt_eq] using hlt
                           rw [hb] at this; cases this
      exact .inr ⟨by omega, by omega⟩
  have hkey := hcall (fun i => ρ (ord.getD i 0)) w (fun u hu' => by
      rw [hav] at hu'
      obtain ⟨u0, hu0, rfl⟩ := List.mem_map.1 hu'
      refine ⟨okL_ren.2 (hu u0 hu0).1, fun i hi => ?_⟩
      rw [ids_ren] at hi
      obtain ⟨j, hj, rfl⟩ := List.mem_map.1 hi
      have := (hvids u0 hu0 j hj).2
      omega)
    (fun b z hz => by
      rw [← hM] at hz
      obtain ⟨z0, e1, e2, e3, e4⟩ := hren.M b z hz
      obtain ⟨m1, m2, _⟩ := hmm (ord.getD b 0) (hasM_iff.2 ⟨by rw [List.getD_eq_getElem?_getD, List.getElem?_eq_getElem e3]; exact List.getElem_mem _, by rw [e1]; rfl⟩) z0 e1
      subst e2
      exact ⟨Holds_ren.1 m1, by simpa [renB, mems_ren] using m2, fun i hi => by have := e4 i hi; omega, by omega⟩)
    (fun b d hbd z z' hz hz' q hq ho => by
      rw [← hM] at hz hz'
      obtain ⟨z0, e1, e2, e3, _⟩ := hren.M b z hz
      obtain ⟨z1, f1, f2, f3, _⟩ := hren.M d z' hz'
      subst e2; subst f2
      have in1 : ord.getD b 0 ∈ hasM M ord := hasM_iff.2 ⟨by rw [List.getD_eq_getElem?_getD, List.getElem?_eq_getElem e3]; exact List.getElem_mem _, by rw [e1]; rfl⟩
      have in2 : ord.getD d 0 ∈ hasM M ord := hasM_iff.2 ⟨by rw [List.getD_eq_getElem?_getD, List.getElem?_eq_getElem f3]; exact List.getElem_mem _, by rw [f1]; rfl⟩
      exact hinj _ _ in1 in2 (fun e => hbd (hren.inj b d e3 f3 e)) _ _ e1 f1 q (own_ren.2 hq) (occ_ren.2 ho))
    ⟨hgd.1, fun b z hz q hq g hg => by
      rw [← hM] at hz
      obtain ⟨z0, e1, e2, e3, _⟩ := hren.M b z hz
      subst e2
      exact hgd.2 (ord.getD b 0) (hasM_iff.2 ⟨by rw [List.getD_eq_getElem?_getD, List.getElem?_eq_getElem e3]; exact List.getElem_mem _, by rw [e1]; rfl⟩) _ e1 q (own_ren.2 hq) g hg⟩
  have hvs' : ((av x).map (VV.den fun i => ρ (ord.getD i 0))).toArray = (vs.map (VV.den ρ)).toArray := by
    rw [hav, List.map_map]
    congr 1
    refine List.map_congr_left fun u hu' => ?_
    rw [Function.comp, den_ren]
    refine den_congr u fun i hi => ?_
    rw [(hvids u hu' i hi).1]
  rw [hvs'] at hkey
  refine ⟨⟨okL_ren.2 hok, fun i hi => ?_, fun b blk hg => ?_, fun b hb => hordp b (hasM_iff.1 hb).1⟩, hkey.mono fun e w' ⟨ρ1, he, hleft⟩ => ?_⟩
  · rw [ids_ren] at hi
    obtain ⟨j, hj, rfl⟩ := List.mem_map.1 hi
    exact hRp j (hvi j hj)
  · obtain ⟨j, z, e1, _, rfl, rfl⟩ := renM_noRo_get hg
    obtain ⟨j1, j2⟩ := hstat j z e1
    refine ⟨?_, by simpa [renB, mems_ren] using memsM_spec hk3 e1, fun i hi => ?_⟩
    · by_cases hjm : j < m
      · left
        have hb : Nat.blt j m = true := by simpa [Nat.blt_eq] using hjm
        simp only [outR, hb, cond_true]
        exact oldIn_spec hk2 e1 hjm
      · right
        have hb : Nat.blt j m = false := by
          cases hb : Nat.blt j m with
          | false => rfl
          | true => exact absurd (by simpa [Nat.blt_eq] using hb) hjm
        simp only [outR, hb, cond_false]
        exact ⟨by omega, by omega⟩
    · rw [bids_ren] at hi
      obtain ⟨q, hq, rfl⟩ := List.mem_map.1 hi
      exact hRp q (j2 q hq)
  · let ρ' : Nat → Nat := fun j => if n ≤ j ∧ j < n + (t.n - m) then ρ1 (m + (j - n)) else ρ j
    have hag : ∀ i, ¬ (n ≤ i ∧ i < n + (t.n - m)) → ρ' i = ρ i := fun i hi => if_neg hi
    have hpρ : ∀ i, p i → ρ' i = ρ i := fun i hi => hag i (hpn i hi)
    have hR' : ∀ j, j < t.n → ρ' (outR ord m n j) = ρ1 j := by
      intro j hj
      unfold outR
      cases hb : Nat.blt j m with
      | true =>
        have hjm : j < m := by simpa [Nat.blt_eq] using hb
        simp only [cond_true]
        rw [hpρ _ (hσp j hjm), hleft.base j hjm]
      | false =>
        have hjm : ¬ j < m := by intro hlt; have : Nat.blt j m = true := by simpa [Nat.blt_eq] using hlt
                                 rw [hb] at this; cases this
        simp only [cond_false]
        show (if n ≤ n + (j - m) ∧ n + (j - m) < n + (t.n - m) then ρ1 (m + (n + (j - m) - n)) else ρ (n + (j - m))) = ρ1 j
        rw [if_pos ⟨by omega, by omega⟩]
        congr 1; omega
    have hown : ∀ j x, getA t.M j = some x → ∀ k, own ρ' (outR ord m n j) (renB (outR ord m n) x) k ↔ own ρ1 j x k := fun j x hx k => by
      obtain ⟨j1, j2⟩ := hstat j x hx
      rw [own_ren]
      exact own_congr (hR' j j1) fun i hi => hR' i (j2 i hi)
    have hocc : ∀ j x, getA t.M j = some x → ∀ k, occ ρ' (outR ord m n j) (renB (outR ord m n) x) k ↔ occ ρ1 j x k := fun j x hx k => by
      obtain ⟨j1, j2⟩ := hstat j x hx
      rw [occ_ren]
      exact occ_congr (hR' j j1) fun i hi => hR' i (j2 i hi)

    have hin : ∀ d z, getA (bl x) d = some z → ∀ k, own (fun i => ρ (ord.getD i 0)) d z k → ord.getD d 0 ∈ hasM M ord ∧ ∃ z0, getA M (ord.getD d 0) = some z0 ∧ own ρ' (ord.getD d 0) z0 k := by
      intro d z hz k hk
      rw [← hM] at hz
      obtain ⟨z0, e1, e2, e3, e4⟩ := hren.M d z hz
      have hin : ord.getD d 0 ∈ ord := by rw [List.getD_eq_getElem?_getD, List.getElem?_eq_getElem e3]; exact List.getElem_mem _
      have hin2 : ord.getD d 0 ∈ hasM M ord := hasM_iff.2 ⟨hin, by rw [e1]; rfl⟩
      refine ⟨hin2, z0, e1, ?_⟩
      have h3 : own ρ (ord.getD d 0) z0 k := by rw [e2]; exact own_ren.2 hk
      exact (own_congr (hpρ _ (hordp _ hin)) fun i hi => hpρ i ((hmm _ hin2 z0 e1).2.2 i hi)).2 h3
    refine ⟨ρ', ?_, hag, ⟨hleft.os, hleft.tape, hleft.output, hleft.size, fun b z hz => ?_, fun b z hz k hk => ?_, fun b d hbd z z' hz hz' k hk ho => ?_, fun k hk h1 h2 => ?_⟩⟩
    · rw [he, den_ren]
      congr 1
      exact den_congr v fun i hi => (hR' i (hvi i hi)).symm
    · obtain ⟨j, z, e1, _, rfl, rfl⟩ := renM_noRo_get hz
      obtain ⟨j1, j2⟩ := hstat j z e1
      exact Holds_ren.2 ((hleft.mm j z e1).congr (hR' j j1) (fun i hi => hR' i (j2 i hi)) fun _ _ => rfl)
    · obtain ⟨j, z, e1, e0, rfl, rfl⟩ := renM_noRo_get hz
      rcases hleft.src j z e1 k ((hown j z e1 k).1 (occ_not_ro (by rw [isRo_ren]; exact e0) hk)) with hs | ⟨d, y', hd, hdo⟩
      · exact .inl hs
      · obtain ⟨g1, z0, g2, g3⟩ := hin d y' hd k hdo
        exact .inr ⟨_, g1, z0, g2, occ_of_own g3, fun _ => g3, fun _ => keysIn_spec hk1 _ (ownL_mem g1 (own_not_ro g2 g3))⟩
    · obtain ⟨j, z, e1, _, rfl, rfl⟩ := renM_noRo_get hz
      obtain ⟨j', z', f1, _, rfl, rfl⟩ := renM_noRo_get hz'
      exact hleft.inj j j' (fun e => hbd (by rw [e])) z z' e1 f1 k ((hown j z e1 k).1 hk) ((hocc j' z' f1 k).1 ho)
    · refine hleft.kept k hk fun d y' hd hdo => ?_
      obtain ⟨g1, z0, g2, g3⟩ := hin d y' hd k hdo
      exact h2 _ g1 z0 g2 (keysIn_spec hk1 _ (ownL_mem g1 (own_not_ro g2 g3))) g3
end Go.VM

namespace Go.Proofs
open Go.VM
theorem mix : Try.prog.follows .mixedOrders = true := by kernel_rfl
noncomputable def bodyOf (f : Func) : Code := f.body.getD .skip
def ti3 : TI := ⟨1, (Go.TypeDesc.int Go.IntKind.i64), [.int .i64 0], 0, [], false, 0⟩
theorem ty3 : TyOK Try.prog 3 ti3 := ⟨by kernel_rfl, by kernel_rfl, rfl, rfl, rfl, rfl, trivial, trivial, fun h => absurd rfl h, fun h => by cases h⟩
def ti4 : TI := ⟨1, Go.TypeDesc.bool, [.bool false], 0, [], false, 0⟩
theorem ty4 : TyOK Try.prog 4 ti4 := ⟨by kernel_rfl, by kernel_rfl, rfl, rfl, rfl, rfl, trivial, trivial, fun h => absurd rfl h, fun h => by cases h⟩
def ti5 : TI := ⟨1, (Go.TypeDesc.int Go.IntKind.u8), [.int .u8 0], 0, [], false, 1⟩
theorem ty5 : TyOK Try.prog 5 ti5 := ⟨by kernel_rfl, by kernel_rfl, rfl, rfl, rfl, rfl, trivial, trivial, fun _ => by kernel_rfl, fun h => by cases h⟩
def ti9 : TI := ⟨1, Go.TypeDesc.string, [.str ByteArray.empty], 0, [], false, 0⟩
theorem ty9 : TyOK Try.prog 9 ti9 := ⟨by kernel_rfl, by kernel_rfl, rfl, rfl, rfl, rfl, trivial, trivial, fun h => absurd rfl h, fun h => by cases h⟩
def ti22 : TI := ⟨1, .slice 5, [.raw (.slice none 0 0)], 1, [], false, 24⟩
theorem ty22 : TyOK Try.prog 22 ti22 := ⟨by kernel_rfl, by kernel_rfl, rfl, rfl, rfl, rfl, by show _ = _; kernel_rfl, trivial, fun _ => by kernel_rfl, fun h => by cases h⟩
def ti23 : TI := ⟨1, (Go.TypeDesc.pointer 30), [.raw (.pointer none)], 0, [], false, 0⟩
theorem ty23 : TyOK Try.prog 23 ti23 := ⟨by kernel_rfl, by kernel_rfl, rfl, rfl, rfl, rfl, trivial, trivial, fun h => absurd rfl h, fun h => by cases h⟩
def ti24 : TI := ⟨1, (Go.TypeDesc.pointer 110), [.raw (.pointer none)], 0, [], false, 0⟩
theorem ty24 : TyOK Try.prog 24 ti24 := ⟨by kernel_rfl, by kernel_rfl, rfl, rfl, rfl, rfl, trivial, trivial, fun h => absurd rfl h, fun h => by cases h⟩
def ti25 : TI := ⟨64, .array 64 5, [.ints .u8 64 [0, 0, 0, 0, 0, 0, 0, 0, 0, 0, 0, 0, 0, 0, 0, 0, 0, 0, 0, 0, 0, 0, 0, 0, 0, 0, 0, 0, 0, 0, 0, 0, 0, 0, 0, 0, 0, 0, 0, 0, 0, 0, 0, 0, 0, 0, 0, 0, 0, 0, 0, 0, 0, 0, 0, 0, 0, 0, 0, 0, 0, 0, 0, 0]], 1, [], true, 0⟩
theorem ty25 : TyOK Try.prog 25 ti25 := ⟨by kernel_rfl, by kernel_rfl, rfl, rfl, rfl, rfl, by show _ = _; kernel_rfl, trivial, fun h => absurd rfl h, fun _ => eqs_arr (e := 5) (by kernel_rfl) (by kernel_rfl) ⟨.u8, by kernel_rfl⟩ (by kernel_rfl)⟩
def ti27 : TI := ⟨65, (Go.TypeDesc.struct #[{ name := "b", type := 25, offset := 0, embedded := false, tag := "", pkgPath := "burrow/shas", byteOffset := 0 }, { name := "many", type := 3, offset := 64, embedded := false, tag := "", pkgPath := "burrow/shas", byteOffset := 64 }]), [.ints .u8 64 [0, 0, 0, 0, 0, 0, 0, 0, 0, 0, 0, 0, 0, 0, 0, 0, 0, 0, 0, 0, 0, 0, 0, 0, 0, 0, 0, 0, 0, 0, 0, 0, 0, 0, 0, 0, 0, 0, 0, 0, 0, 0, 0, 0, 0, 0, 0, 0, 0, 0, 0, 0, 0, 0, 0, 0, 0, 0, 0, 0, 0, 0, 0, 0], .int .i64 0], 0, [64, 1], false, 0⟩
theorem ty27 : TyOK Try.prog 27 ti27 := ⟨by kernel_rfl, by kernel_rfl, rfl, rfl, rfl, rfl, trivial, by show _ = _; kernel_rfl, fun h => absurd rfl h, fun h => by cases h⟩
def ti28 : TI := ⟨1, (Go.TypeDesc.int Go.IntKind.u64), [.int .u64 0], 0, [], false, 0⟩
theorem ty28 : TyOK Try.prog 28 ti28 := ⟨by kernel_rfl, by kernel_rfl, rfl, rfl, rfl, rfl, trivial, trivial, fun h => absurd rfl h, fun h => by cases h⟩
def ti30 : TI := ⟨67, (Go.TypeDesc.struct #[{ name := "s", type := 24, offset := 0, embedded := false, tag := "", pkgPath := "burrow/shas", byteOffset := 0 }, { name := "x", type := 27, offset := 1, embedded := false, tag := "", pkgPath := "burrow/shas", byteOffset := 8 }, { name := "many", type := 28, offset := 66, embedded := false, tag := "", pkgPath := "burrow/shas", byteOffset := 80 }]), [.raw (.pointer none), .ints .u8 64 [0, 0, 0, 0, 0, 0, 0, 0, 0, 0, 0, 0, 0, 0, 0, 0, 0, 0, 0, 0, 0, 0, 0, 0, 0, 0, 0, 0, 0, 0, 0, 0, 0, 0, 0, 0, 0, 0, 0, 0, 0, 0, 0, 0, 0, 0, 0, 0, 0, 0, 0, 0, 0, 0, 0, 0, 0, 0, 0, 0, 0, 0, 0, 0], .int .i64 0, .int .u64 0], 0, [1, 65, 1], false, 0⟩
theorem ty30 : TyOK Try.prog 30 ti30 := ⟨by kernel_rfl, by kernel_rfl, rfl, rfl, rfl, rfl, trivial, by show _ = _; kernel_rfl, fun h => absurd rfl h, fun h => by cases h⟩
def ti35 : TI := ⟨32, .array 32 5, [.ints .u8 32 [0, 0, 0, 0, 0, 0, 0, 0, 0, 0, 0, 0, 0, 0, 0, 0, 0, 0, 0, 0, 0, 0, 0, 0, 0, 0, 0, 0, 0, 0, 0, 0]], 1, [], true, 0⟩
theorem ty35 : TyOK Try.prog 35 ti35 := ⟨by kernel_rfl, by kernel_rfl, rfl, rfl, rfl, rfl, by show _ = _; kernel_rfl, trivial, fun h => absurd rfl h, fun _ => eqs_arr (e := 5) (by kernel_rfl) (by kernel_rfl) ⟨.u8, by kernel_rfl⟩ (by kernel_rfl)⟩
def ti44 : TI := ⟨1, (Go.TypeDesc.int Go.IntKind.u16), [.int .u16 0], 0, [], false, 0⟩
theorem ty44 : TyOK Try.prog 44 ti44 := ⟨by kernel_rfl, by kernel_rfl, rfl, rfl, rfl, rfl, trivial, trivial, fun h => absurd rfl h, fun h => by cases h⟩
def ti47 : TI := ⟨16, .array 16 5, [.ints .u8 16 [0, 0, 0, 0, 0, 0, 0, 0, 0, 0, 0, 0, 0, 0, 0, 0]], 1, [], true, 0⟩
theorem ty47 : TyOK Try.prog 47 ti47 := ⟨by kernel_rfl, by kernel_rfl, rfl, rfl, rfl, rfl, by show _ = _; kernel_rfl, trivial, fun h => absurd rfl h, fun _ => eqs_arr (e := 5) (by kernel_rfl) (by kernel_rfl) ⟨.u8, by kernel_rfl⟩ (by kernel_rfl)⟩
def ti48 : TI := ⟨1, (Go.TypeDesc.int Go.IntKind.u32), [.int .u32 0], 0, [], false, 0⟩
theorem ty48 : TyOK Try.prog 48 ti48 := ⟨by kernel_rfl, by kernel_rfl, rfl, rfl, rfl, rfl, trivial, trivial, fun h => absurd rfl h, fun h => by cases h⟩
def ti49 : TI := ⟨1, (Go.TypeDesc.int Go.IntKind.u32), [.int .u32 0], 0, [], false, 0⟩
theorem ty49 : TyOK Try.prog 49 ti49 := ⟨by kernel_rfl, by kernel_rfl, rfl, rfl, rfl, rfl, trivial, trivial, fun h => absurd rfl h, fun h => by cases h⟩
def ti51 : TI := ⟨67, (Go.TypeDesc.struct #[{ name := "Secret", type := 35, offset := 0, embedded := false, tag := "", pkgPath := "", byteOffset := 0 }, { name := "Gen", type := 28, offset := 32, embedded := false, tag := "", pkgPath := "", byteOffset := 32 }, { name := "Bits", type := 5, offset := 33, embedded := false, tag := "", pkgPath := "", byteOffset := 40 }, { name := "From", type := 47, offset := 34, embedded := false, tag := "", pkgPath := "", byteOffset := 41 }, { name := "To", type := 47, offset := 50, embedded := false, tag := "", pkgPath := "", byteOffset := 57 }, { name := "Spot", type := 49, offset := 66, embedded := false, tag := "", pkgPath := "", byteOffset := 76 }]), [.ints .u8 32 [0, 0, 0, 0, 0, 0, 0, 0, 0, 0, 0, 0, 0, 0, 0, 0, 0, 0, 0, 0, 0, 0, 0, 0, 0, 0, 0, 0, 0, 0, 0, 0], .int .u64 0, .int .u8 0, .ints .u8 16 [0, 0, 0, 0, 0, 0, 0, 0, 0, 0, 0, 0, 0, 0, 0, 0], .ints .u8 16 [0, 0, 0, 0, 0, 0, 0, 0, 0, 0, 0, 0, 0, 0, 0, 0], .int .u32 0], 0, [32, 1, 1, 16, 16, 1], false, 0⟩
theorem ty51 : TyOK Try.prog 51 ti51 := ⟨by kernel_rfl, by kernel_rfl, rfl, rfl, rfl, rfl, trivial, by show _ = _; kernel_rfl, fun h => absurd rfl h, fun h => by cases h⟩
def ti53 : TI := ⟨34, (Go.TypeDesc.struct #[{ name := "Bits", type := 5, offset := 0, embedded := false, tag := "", pkgPath := "", byteOffset := 0 }, { name := "Gen", type := 28, offset := 1, embedded := false, tag := "", pkgPath := "", byteOffset := 8 }, { name := "I", type := 35, offset := 2, embedded := false, tag := "", pkgPath := "", byteOffset := 16 }]), [.int .u8 0, .int .u64 0, .ints .u8 32 [0, 0, 0, 0, 0, 0, 0, 0, 0, 0, 0, 0, 0, 0, 0, 0, 0, 0, 0, 0, 0, 0, 0, 0, 0, 0, 0, 0, 0, 0, 0, 0]], 0, [1, 1, 32], true, 0⟩
theorem ty53 : TyOK Try.prog 53 ti53 := ⟨by kernel_rfl, by kernel_rfl, rfl, rfl, rfl, rfl, trivial, by show _ = _; kernel_rfl, fun h => absurd rfl h, fun _ => eqs_struct (by kernel_rfl) (by kernel_rfl) (by kernel_rfl) (by kernel_rfl)⟩
def ti58 : TI := ⟨32, .array 2 47, [.ints .u8 32 [0, 0, 0, 0, 0, 0, 0, 0, 0, 0, 0, 0, 0, 0, 0, 0, 0, 0, 0, 0, 0, 0, 0, 0, 0, 0, 0, 0, 0, 0, 0, 0]], 16, [], false, 0⟩
theorem ty58 : TyOK Try.prog 58 ti58 := ⟨by kernel_rfl, by kernel_rfl, rfl, rfl, rfl, rfl, by show _ = _; kernel_rfl, trivial, fun h => absurd rfl h, fun h => by cases h⟩
def ti63 : TI := ⟨1, (Go.TypeDesc.int Go.IntKind.u64), [.int .u64 0], 0, [], false, 0⟩
theorem ty63 : TyOK Try.prog 63 ti63 := ⟨by kernel_rfl, by kernel_rfl, rfl, rfl, rfl, rfl, trivial, trivial, fun h => absurd rfl h, fun h => by cases h⟩
def ti67 : TI := ⟨4, .array 4 28, [.ints .u64 4 [0, 0, 0, 0]], 1, [], true, 0⟩
theorem ty67 : TyOK Try.prog 67 ti67 := ⟨by kernel_rfl, by kernel_rfl, rfl, rfl, rfl, rfl, by show _ = _; kernel_rfl, trivial, fun h => absurd rfl h, fun _ => eqs_arr (e := 28) (by kernel_rfl) (by kernel_rfl) ⟨.u64, by kernel_rfl⟩ (by kernel_rfl)⟩
def ti69 : TI := ⟨12, (Go.TypeDesc.struct #[{ name := "P", type := 67, offset := 0, embedded := false, tag := "", pkgPath := "", byteOffset := 0 }, { name := "Q", type := 67, offset := 4, embedded := false, tag := "", pkgPath := "", byteOffset := 32 }, { name := "G", type := 67, offset := 8, embedded := false, tag := "", pkgPath := "", byteOffset := 64 }]), [.ints .u64 4 [0, 0, 0, 0], .ints .u64 4 [0, 0, 0, 0], .ints .u64 4 [0, 0, 0, 0]], 0, [4, 4, 4], false, 0⟩
theorem ty69 : TyOK Try.prog 69 ti69 := ⟨by kernel_rfl, by kernel_rfl, rfl, rfl, rfl, rfl, trivial, by show _ = _; kernel_rfl, fun h => absurd rfl h, fun h => by cases h⟩
def ti70 : TI := ⟨1, (Go.TypeDesc.pointer 74), [.raw (.pointer none)], 0, [], false, 0⟩
theorem ty70 : TyOK Try.prog 70 ti70 := ⟨by kernel_rfl, by kernel_rfl, rfl, rfl, rfl, rfl, trivial, trivial, fun h => absurd rfl h, fun h => by cases h⟩
def ti72 : TI := ⟨2, (Go.TypeDesc.struct #[{ name := "many", type := 28, offset := 0, embedded := false, tag := "", pkgPath := "burrow/draws", byteOffset := 0 }, { name := "made", type := 3, offset := 1, embedded := false, tag := "", pkgPath := "burrow/draws", byteOffset := 8 }]), [.int .u64 0, .int .i64 0], 0, [1, 1], false, 0⟩
theorem ty72 : TyOK Try.prog 72 ti72 := ⟨by kernel_rfl, by kernel_rfl, rfl, rfl, rfl, rfl, trivial, by show _ = _; kernel_rfl, fun h => absurd rfl h, fun h => by cases h⟩
def ti74 : TI := ⟨34, (Go.TypeDesc.struct #[{ name := "count", type := 72, offset := 0, embedded := true, tag := "", pkgPath := "burrow/draws", byteOffset := 0 }, { name := "seed", type := 35, offset := 2, embedded := false, tag := "", pkgPath := "burrow/draws", byteOffset := 16 }]), [.int .u64 0, .int .i64 0, .ints .u8 32 [0, 0, 0, 0, 0, 0, 0, 0, 0, 0, 0, 0, 0, 0, 0, 0, 0, 0, 0, 0, 0, 0, 0, 0, 0, 0, 0, 0, 0, 0, 0, 0]], 0, [2, 32], false, 0⟩
theorem ty74 : TyOK Try.prog 74 ti74 := ⟨by kernel_rfl, by kernel_rfl, rfl, rfl, rfl, rfl, trivial, by show _ = _; kernel_rfl, fun h => absurd rfl h, fun h => by cases h⟩
def ti75 : TI := ⟨1, .slice 70, [.raw (.slice none 0 0)], 1, [], false, 0⟩
theorem ty75 : TyOK Try.prog 75 ti75 := ⟨by kernel_rfl, by kernel_rfl, rfl, rfl, rfl, rfl, by show _ = _; kernel_rfl, trivial, fun h => absurd rfl h, fun h => by cases h⟩
def ti88 : TI := ⟨8, .array 8 48, [.ints .u32 8 [0, 0, 0, 0, 0, 0, 0, 0]], 1, [], true, 0⟩
theorem ty88 : TyOK Try.prog 88 ti88 := ⟨by kernel_rfl, by kernel_rfl, rfl, rfl, rfl, rfl, by show _ = _; kernel_rfl, trivial, fun h => absurd rfl h, fun _ => eqs_arr (e := 48) (by kernel_rfl) (by kernel_rfl) ⟨.u32, by kernel_rfl⟩ (by kernel_rfl)⟩
def ti89 : TI := ⟨1, .slice 48, [.raw (.slice none 0 0)], 1, [], false, 0⟩
theorem ty89 : TyOK Try.prog 89 ti89 := ⟨by kernel_rfl, by kernel_rfl, rfl, rfl, rfl, rfl, by show _ = _; kernel_rfl, trivial, fun h => absurd rfl h, fun h => by cases h⟩
def ti93 : TI := ⟨1, .slice 22, [.raw (.slice none 0 0)], 1, [], false, 0⟩
theorem ty93 : TyOK Try.prog 93 ti93 := ⟨by kernel_rfl, by kernel_rfl, rfl, rfl, rfl, rfl, by show _ = _; kernel_rfl, trivial, fun h => absurd rfl h, fun h => by cases h⟩
def ti108 : TI := ⟨8, .array 8 28, [.ints .u64 8 [0, 0, 0, 0, 0, 0, 0, 0]], 1, [], true, 0⟩
theorem ty108 : TyOK Try.prog 108 ti108 := ⟨by kernel_rfl, by kernel_rfl, rfl, rfl, rfl, rfl, by show _ = _; kernel_rfl, trivial, fun h => absurd rfl h, fun _ => eqs_arr (e := 28) (by kernel_rfl) (by kernel_rfl) ⟨.u64, by kernel_rfl⟩ (by kernel_rfl)⟩
def ti110 : TI := ⟨8, .array 8 48, [.ints .u32 8 [0, 0, 0, 0, 0, 0, 0, 0]], 1, [], true, 0⟩
theorem ty110 : TyOK Try.prog 110 ti110 := ⟨by kernel_rfl, by kernel_rfl, rfl, rfl, rfl, rfl, by show _ = _; kernel_rfl, trivial, fun h => absurd rfl h, fun _ => eqs_arr (e := 48) (by kernel_rfl) (by kernel_rfl) ⟨.u32, by kernel_rfl⟩ (by kernel_rfl)⟩
def ti112 : TI := ⟨1, (Go.TypeDesc.pointer 27), [.raw (.pointer none)], 0, [], false, 0⟩
theorem ty112 : TyOK Try.prog 112 ti112 := ⟨by kernel_rfl, by kernel_rfl, rfl, rfl, rfl, rfl, trivial, trivial, fun h => absurd rfl h, fun h => by cases h⟩
def ti114 : TI := ⟨64, .array 64 48, [.ints .u32 64 [0, 0, 0, 0, 0, 0, 0, 0, 0, 0, 0, 0, 0, 0, 0, 0, 0, 0, 0, 0, 0, 0, 0, 0, 0, 0, 0, 0, 0, 0, 0, 0, 0, 0, 0, 0, 0, 0, 0, 0, 0, 0, 0, 0, 0, 0, 0, 0, 0, 0, 0, 0, 0, 0, 0, 0, 0, 0, 0, 0, 0, 0, 0, 0]], 1, [], true, 0⟩
theorem ty114 : TyOK Try.prog 114 ti114 := ⟨by kernel_rfl, by kernel_rfl, rfl, rfl, rfl, rfl, by show _ = _; kernel_rfl, trivial, fun h => absurd rfl h, fun _ => eqs_arr (e := 48) (by kernel_rfl) (by kernel_rfl) ⟨.u32, by kernel_rfl⟩ (by kernel_rfl)⟩
def ti131 : TI := ⟨1, .slice 28, [.raw (.slice none 0 0)], 1, [], false, 0⟩
theorem ty131 : TyOK Try.prog 131 ti131 := ⟨by kernel_rfl, by kernel_rfl, rfl, rfl, rfl, rfl, by show _ = _; kernel_rfl, trivial, fun h => absurd rfl h, fun h => by cases h⟩
def ti139 : TI := ⟨1, .slice 67, [.raw (.slice none 0 0)], 4, [], false, 0⟩
theorem ty139 : TyOK Try.prog 139 ti139 := ⟨by kernel_rfl, by kernel_rfl, rfl, rfl, rfl, rfl, by show _ = _; kernel_rfl, trivial, fun h => absurd rfl h, fun h => by cases h⟩
def ti146 : TI := ⟨16, .array 16 48, [.ints .u32 16 [0, 0, 0, 0, 0, 0, 0, 0, 0, 0, 0, 0, 0, 0, 0, 0]], 1, [], true, 0⟩
theorem ty146 : TyOK Try.prog 146 ti146 := ⟨by kernel_rfl, by kernel_rfl, rfl, rfl, rfl, rfl, by show _ = _; kernel_rfl, trivial, fun h => absurd rfl h, fun _ => eqs_arr (e := 48) (by kernel_rfl) (by kernel_rfl) ⟨.u32, by kernel_rfl⟩ (by kernel_rfl)⟩
def ti148 : TI := ⟨1, .slice 3, [.raw (.slice none 0 0)], 1, [], false, 0⟩
theorem ty148 : TyOK Try.prog 148 ti148 := ⟨by kernel_rfl, by kernel_rfl, rfl, rfl, rfl, rfl, by show _ = _; kernel_rfl, trivial, fun h => absurd rfl h, fun h => by cases h⟩
def ti151 : TI := ⟨8, .array 8 5, [.ints .u8 8 [0, 0, 0, 0, 0, 0, 0, 0]], 1, [], true, 0⟩
theorem ty151 : TyOK Try.prog 151 ti151 := ⟨by kernel_rfl, by kernel_rfl, rfl, rfl, rfl, rfl, by show _ = _; kernel_rfl, trivial, fun h => absurd rfl h, fun _ => eqs_arr (e := 5) (by kernel_rfl) (by kernel_rfl) ⟨.u8, by kernel_rfl⟩ (by kernel_rfl)⟩
def ti153 : TI := ⟨1, (Go.TypeDesc.interface #[("Error", 157)]), [.raw .nilIface], 0, [], false, 0⟩
theorem ty153 : TyOK Try.prog 153 ti153 := ⟨by kernel_rfl, by kernel_rfl, rfl, rfl, rfl, rfl, trivial, trivial, fun h => absurd rfl h, fun h => by cases h⟩
def ti155 : TI := ⟨2, .array 2 28, [.ints .u64 2 [0, 0]], 1, [], true, 0⟩
theorem ty155 : TyOK Try.prog 155 ti155 := ⟨by kernel_rfl, by kernel_rfl, rfl, rfl, rfl, rfl, by show _ = _; kernel_rfl, trivial, fun h => absurd rfl h, fun _ => eqs_arr (e := 28) (by kernel_rfl) (by kernel_rfl) ⟨.u64, by kernel_rfl⟩ (by kernel_rfl)⟩
def tys : Tab := [(3, ti3), (4, ti4), (5, ti5), (9, ti9), (22, ti22), (23, ti23), (24, ti24), (25, ti25), (27, ti27), (28, ti28), (30, ti30), (35, ti35), (44, ti44), (47, ti47), (48, ti48), (49, ti49), (51, ti51), (53, ti53), (58, ti58), (63, ti63), (67, ti67), (69, ti69), (70, ti70), (72, ti72), (74, ti74), (75, ti75), (88, ti88), (89, ti89), (93, ti93), (108, ti108), (110, ti110), (112, ti112), (114, ti114), (131, ti131), (139, ti139), (146, ti146), (148, ti148), (151, ti151), (153, ti153), (155, ti155)]
theorem tys_ok : TyAll Try.prog (getA tys) := tyAll_of (by
  intro p hp
  simp only [tys, List.mem_cons, List.not_mem_nil, or_false] at hp
  rcases hp with rfl | rfl | rfl | rfl | rfl | rfl | rfl | rfl | rfl | rfl | rfl | rfl | rfl | rfl | rfl | rfl | rfl | rfl | rfl | rfl | rfl | rfl | rfl | rfl | rfl | rfl | rfl | rfl | rfl | rfl | rfl | rfl | rfl | rfl | rfl | rfl | rfl | rfl | rfl | rfl
  · exact ty3
  · exact ty4
  · exact ty5
  · exact ty9
  · exact ty22
  · exact ty23
  · exact ty24
  · exact ty25
  · exact ty27
  · exact ty28
  · exact ty30
  · exact ty35
  · exact ty44
  · exact ty47
  · exact ty48
  · exact ty49
  · exact ty51
  · exact ty53
  · exact ty58
  · exact ty63
  · exact ty67
  · exact ty69
  · exact ty70
  · exact ty72
  · exact ty74
  · exact ty75
  · exact ty88
  · exact ty89
  · exact ty93
  · exact ty108
  · exact ty110
  · exact ty112
  · exact ty114
  · exact ty131
  · exact ty139
  · exact ty146
  · exact ty148
  · exact ty151
  · exact ty153
  · exact ty155)
end Go.Proofs

namespace Go.Proofs
open Go.VM
end Go.Proofs

namespace Go.Proofs
open Go.VM
end Go.Proofs

namespace Go.Proofs
open Go.VM
end Go.Proofs

namespace Go.Proofs
open Go.VM
end Go.Proofs

namespace Go.Proofs
open Go.VM
end Go.Proofs

namespace Go.Proofs
open Go.VM
end Go.Proofs

namespace Go.Proofs
open Go.VM
end Go.Proofs

namespace Go.Proofs
open Go.VM
end Go.Proofs

namespace Go.Proofs
open Go.VM
end Go.Proofs

namespace Go.Proofs
open Go.VM
end Go.Proofs

namespace Go.VM
theorem iter_inv {X Y : Type} {stp : (X → Option Y) → X → Option Y} (I : Nat → X → Prop) (Q : Y → Prop) (h : ∀ m x, I m x → (∃ y, Q y ∧ ∀ rec, stp rec x = some y) ∨ (∃ x' m', m' < m ∧ I m' x' ∧ ∀ rec, stp rec x = rec x')) :
    ∀ m x, I m x → ∀ K, m < K → ∃ y, Q y ∧ iter stp K x = some y := by
  intro m
  induction m using Nat.strongRecOn with
  | _ m ih =>
    intro x hx K hK
    obtain ⟨k, rfl⟩ : ∃ k, K = k + 1 := ⟨K - 1, by omega⟩
    rcases h m x hx with ⟨y, hy, hs⟩ | ⟨x', m', hm, hi, hs⟩
    · exact ⟨y, hy, hs _⟩
    · obtain ⟨y, h1, h2⟩ := ih m' hm x' hi k (by omega)
      exact ⟨y, h1, by rw [iter, hs]; exact h2⟩
def blen (n : Nat) : Nat := if n = 0 then 0 else Nat.log2 n + 1
theorem blen_pos {n k : Nat} : k < blen n ↔ n / 2 ^ k ≠ 0 := by
  unfold blen
  split
  · rename_i h; subst h; simp
  · rename_i h
    rw [Nat.lt_succ_iff, Nat.le_log2 h]
    constructor
    · intro h1 h2
      have := (Nat.div_eq_zero_iff).1 h2
      rcases this with h3 | h3
      · have := Nat.two_pow_pos k; omega
      · omega
    · intro h1
      rcases Nat.lt_or_ge n (2 ^ k) with h2 | h2
      · exact absurd (Nat.div_eq_of_lt h2) h1
      · exact h2
theorem blen_unique {n b : Nat} (h : ∀ k, k < b ↔ n / 2 ^ k ≠ 0) : blen n = b := by
  rcases Nat.lt_trichotomy (blen n) b with h1 | h1 | h1
  · have := (h _).1 h1
    exact absurd (blen_pos.2 this) (Nat.lt_irrefl _)
  · exact h1
  · have := blen_pos.1 h1
    exact absurd ((h _).2 this) (Nat.lt_irrefl _)
theorem blen_le {n k : Nat} (h : n < 2 ^ k) : blen n ≤ k := by
  rcases Nat.lt_or_ge k (blen n) with h1 | h1
  · exact absurd (Nat.div_eq_of_lt h) (blen_pos.1 h1)
  · exact h1
theorem blen_word (L h p : Nat) (hL : L < 2 ^ p) (hh : h ≠ 0) : blen (L + h * 2 ^ p) = p + blen h := by
  refine blen_unique fun k => ?_
  rcases Nat.lt_or_ge k p with hk | hk
  · constructor
    · intro _ h0
      rcases (Nat.div_eq_zero_iff).1 h0 with h1 | h1
      · have := Nat.two_pow_pos k; omega
      · have h2 : 2 ^ k ≤ 2 ^ p := Nat.pow_le_pow_right (by decide) (by omega)
        have h3 : 2 ^ p ≤ h * 2 ^ p := Nat.le_mul_of_pos_left _ (by omega)
        omega
    · intro _; omega
  · have e : (L + h * 2 ^ p) / 2 ^ k = h / 2 ^ (k - p) := by
      rw [show k = p + (k - p) by omega, Nat.pow_add, ← Nat.div_div_eq_div_mul, Nat.add_mul_div_right _ _ (Nat.two_pow_pos p), Nat.div_eq_of_lt hL, Nat.zero_add, show p + (k - p) - p = k - p by omega]
    rw [e, ← blen_pos]
    omega
end Go.VM
namespace Go.Proofs
open Go.VM
end Go.Proofs

namespace Go.VM
end Go.VM
namespace Go.Proofs
open Go.VM
end Go.Proofs

namespace Go.Proofs
open Go.VM
end Go.Proofs

namespace Go.Proofs
open Go.VM
end Go.Proofs

namespace Go.Proofs
open Go.VM
end Go.Proofs

namespace Go.Proofs
open Go.VM
end Go.Proofs

namespace Go.Proofs
open Go.VM
theorem wf_u8 {z : Int} (h : (Lit.int .u8 z).wf = true) : ∃ n : Nat, n < 256 ∧ z = (n : Int) := by
  simp [Lit.wf, IntKind.min, IntKind.max, IntKind.signed, IntKind.bits] at h
  exact ⟨z.toNat, by omega, by omega⟩
end Go.Proofs

namespace Go.Proofs
open Go.VM
end Go.Proofs

namespace Go.Proofs
open Go.VM
end Go.Proofs

namespace Go.Proofs
open Go.VM
end Go.Proofs

namespace Go.Proofs
open Go.VM
end Go.Proofs

namespace Go.Proofs
open Go.VM
end Go.Proofs

namespace Go.Proofs
open Go.VM
end Go.Proofs

namespace Go.Proofs
open Go.VM
end Go.Proofs

namespace Go.Proofs
open Go.VM
end Go.Proofs

namespace Go.Proofs
open Go.VM
end Go.Proofs

namespace Go.Proofs
open Go.VM
end Go.Proofs

namespace Go.Proofs
open Go.VM
def be : Nat → Nat → List Int
  | 0, _ => []
  | n + 1, x => be n (x / 256) ++ [((x % 256 : Nat) : Int)]
theorem be_length : ∀ n x : Nat, (be n x).length = n
  | 0, _ => rfl
  | n + 1, x => by rw [be, List.length_append, be_length n]; rfl
def octets (l : List Int) : Prop := ∀ x ∈ l, 0 ≤ x ∧ x < 256
theorem be_octets : ∀ n x : Nat, octets (be n x)
  | 0, _ => fun _ h => by cases h
  | n + 1, x => fun y h => by
    rw [be, List.mem_append] at h
    rcases h with h | h
    · exact be_octets n _ y h
    · simp only [List.mem_singleton] at h
      subst h
      omega
def tv (l : List Int) : Nat := l.foldl (fun a x => 256 * a + x.toNat) 0
theorem tv_snoc (l : List Int) (x : Int) : tv (l ++ [x]) = 256 * tv l + x.toNat := by simp [tv]
theorem tv_lt : ∀ (n : Nat) (l : List Int), l.length = n → octets l → tv l < 256 ^ n
  | 0, l, h, _ => by
    have : l = [] := List.length_eq_zero_iff.1 h
    subst this; simp [tv]
  | n + 1, l, h, ho => by
    have hne : l ≠ [] := by intro e; subst e; cases h
    rw [← List.dropLast_concat_getLast hne, tv_snoc]
    have h1 := tv_lt n l.dropLast (by simp [h]) (fun x hx => ho x (List.dropLast_subset l hx))
    have h2 := ho _ (List.getLast_mem hne)
    rw [Nat.pow_succ]
    omega
theorem padT_self (l : List Int) {n : Nat} (h : l.length = n) : padT l n = l := by
  subst h
  refine List.ext_getElem? fun i => ?_
  by_cases hi : i < l.length
  · simp [padT, hi]
  · rw [List.getElem?_eq_none (by simpa [padT] using hi), List.getElem?_eq_none (by omega)]
theorem subI_cut (l : List Int) (off m : Nat) (h : off + m ≤ l.length) : subI l off m = (l.drop off).take m := by
  refine List.ext_getElem? fun i => ?_
  rw [List.getElem?_take, List.getElem?_drop]
  by_cases hi : i < m
  · rw [if_pos hi]
    have : off + i < l.length := by omega
    simp [subI, hi, this]
  · rw [if_neg hi, List.getElem?_eq_none (by simpa [subI] using hi)]
theorem subI_self (l : List Int) {n : Nat} (h : l.length = n) : subI l 0 n = l := by
  rw [subI_cut l 0 n (by omega), List.drop_zero, List.take_of_length_le (by omega)]
theorem fitB_true {x : Nat} (h : x ≤ 140737488355328) : fitB x = true := by simp only [fitB, Nat.ble_eq]; exact h
theorem ble_true {x y : Nat} (h : x ≤ y) : Nat.ble x y = true := by simp only [Nat.ble_eq]; exact h
theorem altl {A B C : Type} (f : A → C) (g : B → C) (a : A) : alt f g (.inl a) = f a := Eq.trans (show alt f g (.inl a) = f a from by unfold alt; rfl) (Eq.symm (Eq.symm rfl))
theorem altr {A B C : Type} (f : A → C) (g : B → C) (b : B) : alt f g (.inr b) = g b := Eq.trans (show alt f g (.inr b) = g b from by unfold alt; rfl) (Eq.symm (Eq.symm rfl))
theorem be_mod : ∀ (n x : Nat), be n (x % 256 ^ n) = be n x
  | 0, _ => rfl
  | n + 1, x => by
    rw [be, be]
    have h1 : x % 256 ^ (n + 1) / 256 = x / 256 % 256 ^ n := by rw [Nat.pow_succ', Nat.mod_mul_right_div_self]
    have h2 : x % 256 ^ (n + 1) % 256 = x % 256 := by rw [Nat.pow_succ', Nat.mod_mul_right_mod]
    rw [h1, h2, be_mod n]
theorem tv_append (a b : List Int) : tv (a ++ b) = tv a * 256 ^ b.length + tv b := by
  have key : ∀ (b : List Int) (x : Nat), b.foldl (fun a x => 256 * a + x.toNat) x = x * 256 ^ b.length + b.foldl (fun a x => 256 * a + x.toNat) 0 := by
    intro b
    induction b with
    | nil => intro x; simp
    | cons y b ih =>
      intro x
      rw [List.foldl_cons, ih, List.foldl_cons, ih (256 * 0 + y.toNat), List.length_cons, Nat.pow_succ']
      have : (256 * x + y.toNat) * 256 ^ b.length = x * (256 * 256 ^ b.length) + y.toNat * 256 ^ b.length := by
        rw [Nat.add_mul, Nat.mul_comm 256 x, Nat.mul_assoc]
      rw [this, Nat.mul_zero, Nat.zero_add]; omega
  show (a ++ b).foldl _ 0 = _
  rw [List.foldl_append, key]
  rfl
theorem octets_append {a b : List Int} (ha : octets a) (hb : octets b) : octets (a ++ b) := fun x hx => (List.mem_append.1 hx).elim (ha x) (hb x)
end Go.Proofs
