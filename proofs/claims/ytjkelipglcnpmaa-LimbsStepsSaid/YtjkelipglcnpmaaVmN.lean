/- The machine on virtual values: a part of its definition or of its soundness proof. -/
import Derived.Test.YtjkelipglcnpmaaVmM
namespace Go.VM

/-! ### Functions that are handed blocks -/

def distinct : List Nat → Bool
  | [] => true
  | b :: l => (l.all fun c => !Nat.beq b c) && distinct l

theorem distinct_inj {bs : List Nat} (h : distinct bs = true) : ∀ i j, i < bs.length → j < bs.length → bs.getD i 0 = bs.getD j 0 → i = j := by
  induction bs with
  | nil => intro i j hi; simp at hi
  | cons b bs ih =>
    simp only [distinct, Bool.and_eq_true, List.all_eq_true, Bool.not_eq_true'] at h
    have nb : ∀ i, i < bs.length → bs.getD i 0 ≠ b := by
      intro i hi he
      have hm : bs.getD i 0 ∈ bs := by rw [List.getD_eq_getElem?_getD, List.getElem?_eq_getElem hi]; exact List.getElem_mem hi
      have := h.1 _ hm
      rw [he] at this
      simp at this
    intro i j hi hj he
    cases i with
    | zero =>
      cases j with
      | zero => rfl
      | succ j => exact absurd (by simpa using he.symm) (nb j (by simpa using hj))
    | succ i =>
      cases j with
      | zero => exact absurd (by simpa using he) (nb i (by simpa using hi))
      | succ j => rw [ih h.2 i j (by simpa using hi) (by simpa using hj) (by simpa using he)]

def upZ : List Nat → List Blk → List (Nat × Blk)
  | b :: bs, x :: xs => (b, x) :: upZ bs xs
  | _, _ => []

theorem upZ_get {bs : List Nat} {xs : List Blk} (hl : bs.length = xs.length) (hd : distinct bs = true) {i : Nat} (hi : i < bs.length) : getA (upZ bs xs) (bs.getD i 0) = xs[i]? := by
  induction bs generalizing xs i with
  | nil => simp at hi
  | cons b bs ih =>
    cases xs with
    | nil => simp at hl
    | cons x xs =>
      cases i with
      | zero => simp [upZ, getA]
      | succ i =>
        have hne : Nat.beq b (bs.getD i 0) = false := by
          rw [← Bool.not_eq_true, Nat.beq_eq]
          intro he
          have := distinct_inj hd 0 (i + 1) (by simp) hi (by simpa using he)
          omega
        simp only [distinct, Bool.and_eq_true] at hd
        have := ih (xs := xs) (by simpa using hl) hd.2 (i := i) (by simpa using hi)
        simp only [upZ, getA, List.getD_cons_succ, hne, cond_false, this, List.getElem?_cons_succ]

theorem upZ_mem {bs : List Nat} {xs : List Blk} (hl : bs.length = xs.length) {b : Nat} {blk : Blk} (h : getA (upZ bs xs) b = some blk) : ∃ i, i < bs.length ∧ b = bs.getD i 0 ∧ xs[i]? = some blk := by
  induction bs generalizing xs with
  | nil => simp [upZ, getA] at h
  | cons c bs ih =>
    cases xs with
    | nil => simp at hl
    | cons x xs =>
      simp only [upZ, getA] at h
      cases hb : Nat.beq c b with
      | true =>
        have : c = b := by simpa using hb
        simp [hb] at h
        exact ⟨0, by simp, by simp [this], by simp [h]⟩
      | false =>
        simp only [hb, cond_false] at h
        obtain ⟨i, h1, h2, h3⟩ := ih (xs := xs) (by simpa using hl) h
        exact ⟨i + 1, by simpa using h1, by simpa using h2, by simpa using h3⟩

def initM (i : Nat) : List Blk → List (Nat × Blk)
  | [] => []
  | v :: l => (i, v) :: initM (i + 1) l

theorem initM_get {vs : List Blk} {i t : Nat} {v : Blk} (h : getA (initM i vs) t = some v) : i ≤ t ∧ vs[t - i]? = some v := by
  induction vs generalizing i with
  | nil => simp [initM, getA] at h
  | cons u vs ih =>
    simp only [initM, getA] at h
    cases hb : Nat.beq i t with
    | true =>
      have : i = t := by simpa using hb
      subst this
      simp at h
      subst h
      exact ⟨Nat.le_refl _, by simp⟩
    | false =>
      rw [hb] at h
      obtain ⟨h1, h2⟩ := ih h
      exact ⟨by omega, by rw [show t - i = (t - (i + 1)) + 1 by omega]; simpa using h2⟩

/-- The entry of a function of plain values and of blocks of plain values. -/
def refE {X Y : Type} (inA : List VV → List (Nat × Blk) → Option (X × List Nat)) (F : X → Option Y) (mk : Y → VV) (bo : Y → List Blk) : Entry :=
  fun _ vs M _ k => (inA vs M).bind fun p => bif distinct p.2 then (F p.1).bind fun y => k (mk y) { rd := p.2, up := upZ p.2 (bo y) } else none

theorem obj_plain {ρ ρ' : Nat → Nat} {blk : Blk} (h : VV.idss blk.1 = []) : obj ρ blk = obj ρ' blk := by
  unfold obj
  rw [cellss_congr (ρ := ρ) (ρ' := ρ') blk.1 (by simp [h])]

/-- A function of plain values and blocks of plain values, by its body's run. -/
theorem ref_ok {P : Program} {ty : TypeId → Option TI} {sp : Spec} {lp : Nat → Option (Hint × Summ)} (hmix : P.follows .mixedOrders = true) (hty : TyAll P ty) (hsp : SpecOK P sp)
    {f : FuncId} {fn : Func} {c : Code} (hf : P.funcs[f]? = some fn) (hb : fn.body = some c) (hname : (fn.name == "runtime.NumGoroutine") = false) {m : Nat} (hl : LoopsOK P fn.ntmps m lp c)
    {X Y : Type} {fuel : Nat} {shp : X → (Nat → Nat) → List VV} {bi : X → List Blk} {inA : List VV → List (Nat × Blk) → Option (X × List Nat)} {F : X → Option Y} {inR : VV → VS → Option Y} {mk : Y → VV} {bo : Y → List Blk}
    (hA : ∀ vs M x bs, inA vs M = some (x, bs) → vs = shp x (fun i => bs.getD i 0) ∧ bs.length = m ∧ (∀ i, i < m → getA M (bs.getD i 0) = (bi x)[i]?) ∧ ∀ b ∈ bs, VV.ptr b 0 ∈ vs)
    (hS : ∀ x, (bi x).length = m ∧ (shp x id).length ≤ fn.ntmps ∧ (∀ i ∈ VV.idss (shp x id), i < m) ∧ VV.mems (shp x id) = true ∧ ∀ b ∈ bi x, VV.mems b.1 = true ∧ VV.idss b.1 = [])
    (hden : ∀ x (ρ σ : Nat → Nat), (shp x σ).map (VV.den ρ) = (shp x id).map (VV.den (fun i => ρ (σ i))))
    (hR : ∀ v st y, inR v st = some y → v = mk y ∧ (mk y).ids = [] ∧ (bo y).length = m ∧ (∀ i, i < m → getA st.M i = (bo y)[i]?) ∧ ∀ b ∈ bo y, VV.mems b.1 = true ∧ VV.idss b.1 = [])
    (hF : ∀ x, F x = xrun ty sp fn.ntmps m lp fuel c ⟨initL 0 (shp x id), initM 0 (bi x), m⟩ (contF ty fn.results.toList inR)) : EntryOK P f (refE inA F mk bo) := by
  intro α vs M n k r h
  simp only [refE] at h
  obtain ⟨⟨x, bs⟩, h1, h2⟩ := Option.bind_eq_some_iff.1 h
  cases hd : distinct bs with
  | false => simp [hd] at h2
  | true =>
  simp only [hd, cond_true] at h2
  obtain ⟨y, h3, h4⟩ := Option.bind_eq_some_iff.1 h2
  obtain ⟨hvs, hbl, hM, hp⟩ := hA vs M x bs h1
  obtain ⟨s1, s2, s3, s4, s5⟩ := hS x
  rw [hF] at h3
  obtain ⟨v, st', g1, g2, g3⟩ := fn_calls hmix hty hsp hf hb hl s2 h3
  obtain ⟨rfl, hids, r1, r2, r3⟩ := hR v st' y g1
  have hσ : ∀ i, i < m → bs.getD i 0 ∈ bs := fun i hi => by
    rw [List.getD_eq_getElem?_getD, List.getElem?_eq_getElem (by omega)]; exact List.getElem_mem _
  have hM' : ∀ i, i < m → (getA M (bs.getD i 0)).isSome := fun i hi => by rw [hM i hi, List.getElem?_eq_getElem (by omega)]; rfl
  have hrd : ∀ b ∈ bs, (getA M b).isSome := fun b hb => by
    obtain ⟨i, hi, rfl⟩ := List.getElem_of_mem hb
    have := hM' i (by omega)
    rwa [List.getD_eq_getElem?_getD, List.getElem?_eq_getElem hi] at this
  refine ⟨mk y, { rd := bs, up := upZ bs (bo y) }, h4, ⟨fn, hf, hname, by rw [hb]; rfl⟩, hrd, fun ρ p w hu hmm hinj hpn => ⟨⟨g2, by simp [hids], fun b blk hg => ?_, fun b hb => ?_⟩, ?_⟩⟩
  · obtain ⟨i, q1, rfl, q3⟩ := upZ_mem (by omega) hg
    obtain ⟨e1, e2⟩ := r3 blk (List.mem_of_getElem? q3)
    exact ⟨.inl (hσ i (by omega)), e1, by simp [e2]⟩
  · exact (hu _ (hp b hb)).2 b (by simp [VV.ids])
  · have key := g3 (fun i => ρ (bs.getD i 0)) w (fun u hu' => ⟨okL_of_mem (mems_iff.1 s4 u hu'), fun i hi => s3 i (mem_idss.2 ⟨u, hu', hi⟩)⟩)
      (fun b blk hg => by
        obtain ⟨_, q2⟩ := initM_get hg
        simp only [Nat.sub_zero] at q2
        have hlt : b < m := by
          rcases Nat.lt_or_ge b m with h | h
          · exact h
          · rw [List.getElem?_eq_none (by omega)] at q2; cases q2
        obtain ⟨e1, e2⟩ := s5 blk (List.mem_of_getElem? q2)
        obtain ⟨e3, _, _⟩ := hmm _ (hσ b hlt) blk (by rw [hM b hlt, q2])
        exact ⟨by rw [e3]; exact congrArg some (obj_plain e2), e1, by simp [e2], hlt⟩)
      (fun b d hb hd' he => by
        obtain ⟨b1, hb1⟩ := Option.isSome_iff_exists.1 hb
        obtain ⟨d1, hd1⟩ := Option.isSome_iff_exists.1 hd'
        obtain ⟨_, qb⟩ := initM_get hb1
        obtain ⟨_, qd⟩ := initM_get hd1
        simp only [Nat.sub_zero] at qb qd
        have lt : ∀ {b : Nat} {z : Blk}, (bi x)[b]? = some z → b < m := fun {b z} q => by
          rcases Nat.lt_or_ge b m with h | h
          · exact h
          · rw [List.getElem?_eq_none (by omega)] at q; cases q
        have l1 := lt qb
        have l2 := lt qd
        exact distinct_inj hd b d (by omega) (by omega) (hinj _ _ (hσ b l1) (hσ d l2) (hM' b l1) (hM' d l2) he))
    have hvs' : (vs.map (VV.den ρ)).toArray = ((shp x id).map (VV.den fun i => ρ (bs.getD i 0))).toArray := by rw [hvs, hden]
    rw [hvs']
    refine key.mono fun e w' ⟨ρ', he, hag, _, hbl', _, _, q1, q2, q3, q4, q6, q5⟩ => ?_
    refine ⟨ρ, ?_, fun _ _ => rfl, ⟨q1, q2, q3, q4, fun b blk hg => ?_, fun i h => absurd h (Nat.not_lt_zero i), fun i _ h => absurd h (Nat.not_lt_zero i), fun j hj hne => ?_, q6⟩⟩
    · rw [he, den_congr (ρ := ρ') (ρ' := ρ) (mk y) (by simp [hids])]
    · obtain ⟨i, z1, rfl, z3⟩ := upZ_mem (by omega) hg
      obtain ⟨e1, e2⟩ := r3 blk (List.mem_of_getElem? z3)
      obtain ⟨t1, _⟩ := hbl' i blk (by rw [r2 i (by omega), z3])
      rw [hag i (by omega)] at t1
      rw [t1]
      exact congrArg some (obj_plain e2)
    · refine q5 j hj fun b hb => ?_
      obtain ⟨b1, hb1⟩ := Option.isSome_iff_exists.1 hb
      obtain ⟨_, qb⟩ := initM_get hb1
      simp only [Nat.sub_zero] at qb
      have hlt : b < m := by
        rcases Nat.lt_or_ge b m with h | h
        · exact h
        · rw [List.getElem?_eq_none (by omega)] at qb; cases qb
      refine hne (bs.getD b 0) ?_
      show (getA (upZ bs (bo y)) (bs.getD b 0)).isSome
      rw [upZ_get (by omega) hd (by omega), List.getElem?_eq_getElem (by omega)]; rfl

/-- The summary of a loop that is left in two ways. -/
def summOf3 {X Y : Type} (f : X → Option (Bool × Y)) (inX : VS → Option X) (e1 e2 : Ex) (o1 o2 : Y → VS) : Summ :=
  fun _ st k => (inX st).bind fun x => (f x).bind fun y => bif y.1 then k e1 (o1 y.2) else k e2 (o2 y.2)

theorem summ3_eq {X Y : Type} (f : X → Option (Bool × Y)) (inX : VS → Option X) (e1 e2 : Ex) (o1 o2 : Y → VS) : summOf3 f inX e1 e2 o1 o2 = summOf f inX (fun y => (bif y.1 then e1 else e2, bif y.1 then o1 y.2 else o2 y.2)) := by
  funext α st k
  unfold summOf3 summOf
  congr 1
  funext x
  congr 1
  funext y
  obtain ⟨b, y⟩ := y
  cases b <;> rfl

end Go.VM
