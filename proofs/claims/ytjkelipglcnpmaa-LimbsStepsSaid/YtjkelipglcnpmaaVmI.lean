/- The machine on virtual values: a part of its definition or of its soundness proof. -/
import Derived.Test.YtjkelipglcnpmaaVmH
namespace Go.VM

/-! ### The order -/

/-- The operations that o waits for, as bits. -/
def waits (o : Oper) : Nat := o.after.toList.foldl (fun s e => bif Region.binds .any e then s ||| 2 ^ e.on else s) 0

theorem waits_aux (l : List Edge) (s i : Nat) : (l.foldl (fun s e => bif Region.binds .any e then s ||| 2 ^ e.on else s) s).testBit i = (s.testBit i || l.any fun e => Region.binds .any e && e.on == i) := by
  induction l generalizing s with
  | nil => simp
  | cons e l ih =>
    simp only [List.foldl_cons, ih, List.any_cons]
    cases hb : Region.binds .any e with
    | false => simp
    | true =>
      simp only [cond_true, Nat.testBit_or, Nat.testBit_two_pow, Bool.true_and, Bool.or_assoc]
      congr 2

theorem waits_spec {o : Oper} {i : Nat} (h : (waits o).testBit i = true) : ∃ e ∈ o.after, Region.binds .any e = true ∧ e.on = i := by
  unfold waits at h
  rw [waits_aux] at h
  simp only [Nat.zero_testBit, Bool.false_or, List.any_eq_true, Bool.and_eq_true, beq_iff_eq] at h
  obtain ⟨e, h1, h2, h3⟩ := h
  exact ⟨e, by simpa using h1, h2, h3⟩

def memApart (x y : List Nat × List Nat) : Bool :=
  x.2.all (fun b => !(y.1.contains b) && !(y.2.contains b)) && x.1.all fun b => !(y.2.contains b)

/-- Each operation waits for earlier ones alone; two that don't wait for one another are apart. -/
def ordFrom (all : Array Oper) : List (Nat × Oper × (List Nat × List Nat)) → Nat → List Oper → List (List Nat × List Nat) → Bool
  | prev, j, o :: l, x :: tr =>
      o.after.toList.all (fun e => !Region.binds .any e || Nat.blt e.on j) &&
      (let m := waits o
       prev.all fun q => m.testBit q.1 || (q.2.1.apart all o && memApart q.2.2 x)) && ordFrom all ((j, o, x) :: prev) (j + 1) l tr
  | _, _, [], _ => true
  | _, _, _, [] => false

theorem ordFrom_spec {all : Array Oper} {prev : List (Nat × Oper × (List Nat × List Nat))} {j : Nat} {l : List Oper} {tr : List (List Nat × List Nat)} (h : ordFrom all prev j l tr = true) :
    ∀ k o x, l[k]? = some o → tr[k]? = some x → (∀ e ∈ o.after, Region.binds .any e = true → e.on < j + k) ∧
      (∀ q ∈ prev, (waits o).testBit q.1 = true ∨ (q.2.1.apart all o = true ∧ memApart q.2.2 x = true)) ∧
      ∀ i oi xi, i < k → l[i]? = some oi → tr[i]? = some xi → (waits o).testBit (j + i) = true ∨ (oi.apart all o = true ∧ memApart xi x = true) := by
  induction l generalizing prev j tr with
  | nil => intro k o x hk; simp at hk
  | cons o0 l ih =>
    cases tr with
    | nil => intro k o x _ hx; simp at hx
    | cons x0 tr =>
      simp only [ordFrom, Bool.and_eq_true, List.all_eq_true, Bool.or_eq_true] at h
      obtain ⟨⟨h1, h2⟩, h3⟩ := h
      intro k o x hk hx
      cases k with
      | zero =>
        simp only [List.getElem?_cons_zero, Option.some.injEq] at hk hx
        subst hk; subst hx
        refine ⟨fun e he hb => ?_, fun q hq => h2 q hq, fun i oi xi hi => absurd hi (Nat.not_lt_zero i)⟩
        have := h1 e (by simpa using he)
        simp only [hb, Bool.not_true, Bool.false_eq_true, false_or, Nat.blt_eq] at this
        simpa using this
      | succ k =>
        simp only [List.getElem?_cons_succ] at hk hx
        obtain ⟨g1, g2, g3⟩ := ih h3 k o x hk hx
        refine ⟨fun e he hb => by have := g1 e he hb; omega, fun q hq => g2 q (by simp [hq]), fun i oi xi hi hoi hxi => ?_⟩
        cases i with
        | zero =>
          simp only [List.getElem?_cons_zero, Option.some.injEq] at hoi hxi
          subst hoi; subst hxi
          exact g2 (j, o0, x0) (by simp)
        | succ i =>
          simp only [List.getElem?_cons_succ] at hoi hxi
          have := g3 i oi xi (by omega) hoi hxi
          rwa [show j + (i + 1) = j + 1 + i by omega]

/-! how many are not yet carried out -/

def open' (listed : Array Bool) : Nat → Nat
  | 0 => 0
  | m + 1 => open' listed m + if listed.getD m true = true then 0 else 1

theorem open_set {listed : Array Bool} {j m : Nat} (h : listed.getD j true = false) : (if j < m then open' (listed.setIfInBounds j true) m + 1 else open' (listed.setIfInBounds j true) m) = open' listed m := by
  have hj : j < listed.size := by
    rcases Nat.lt_or_ge j listed.size with h' | h'
    · exact h'
    · simp [Array.getElem?_eq_none h'] at h
  have hsame : ∀ i, i ≠ j → (listed.setIfInBounds j true).getD i true = listed.getD i true := fun i hi => getD_set_ne true (Ne.symm hi)
  have hset : (listed.setIfInBounds j true).getD j true = true := by simp [hj]
  induction m with
  | zero => simp [open']
  | succ m ih =>
    simp only [open']
    by_cases h1 : j = m
    · subst h1
      rw [if_neg (Nat.lt_irrefl j)] at ih
      rw [if_pos (Nat.lt_succ_self j), ih, hset, h]
      simp
    · rw [hsame m (Ne.symm h1)]
      by_cases h2 : j < m
      · rw [if_pos h2] at ih
        rw [if_pos (by omega), ← ih]
        omega
      · rw [if_neg h2] at ih
        rw [if_neg (by omega), ih]

theorem open_zero {listed : Array Bool} {m : Nat} (h : open' listed m = 0) : ∀ i, i < m → listed.getD i true = true := by
  induction m with
  | zero => intro i hi; omega
  | succ m ih =>
    simp only [open'] at h
    intro i hi
    by_cases e : i = m
    · subst e
      by_cases h1 : listed.getD i true = true
      · exact h1
      · rw [if_neg h1] at h; omega
    · exact ih (by omega) i (by omega)

theorem first_open {listed : Array Bool} {m : Nat} (h : open' listed m ≠ 0) : ∃ j, j < m ∧ listed.getD j true = false ∧ ∀ i, i < j → listed.getD i true = true := by
  induction m with
  | zero => simp [open'] at h
  | succ m ih =>
    by_cases h0 : open' listed m = 0
    · simp only [open', h0, Nat.zero_add] at h
      refine ⟨m, by omega, ?_, fun i hi => open_zero h0 i hi⟩
      by_cases h1 : listed.getD m true = true
      · rw [if_pos h1] at h; exact absurd rfl h
      · simpa using h1
    · obtain ⟨j, h1, h2, h3⟩ := ih h0
      exact ⟨j, by omega, h2, h3⟩

theorem getD_false_of_true {listed : Array Bool} {i m : Nat} (hs : listed.size = m) (hi : i < m) (h : listed.getD i true = true) : listed.getD i false = true := by
  have : i < listed.size := by omega
  simp [this] at h ⊢
  exact h

abbrev Rel (C : Ctx) (ρ : Nat → Nat) (st : VS) (a : Act) (w : World) : Prop := Inv C (getA st.L) (getA st.M) (fun i => i < st.n) ρ a w

theorem mem_keys {up : List (Nat × Blk)} {b : Nat} (h : (getA up b).isSome) : b ∈ up.map (·.1) := by
  induction up with
  | nil => simp [getA] at h
  | cons q r ih =>
    obtain ⟨c, x⟩ := q
    simp only [getA] at h
    cases hb : Nat.beq c b with
    | true =>
      have : c = b := by simpa using hb
      simp [this]
    | false =>
      simp only [hb, cond_false] at h
      simp only [List.map_cons, List.mem_cons]
      exact .inr (ih h)

theorem memApart_spec {x y : List Nat × List Nat} (h : memApart x y = true) : (∀ b ∈ x.2, b ∉ y.1 ∧ b ∉ y.2) ∧ ∀ b ∈ x.1, b ∉ y.2 := by
  simp only [memApart, Bool.and_eq_true, List.all_eq_true, Bool.not_eq_true', List.contains_eq_mem, decide_eq_false_iff_not] at h
  exact h

/-- A guard's answer. -/
theorem wanted_of {C : Ctx} {LS : Nat → Option VV} {MS : Nat → Option Blk} {KS : Nat → Prop} {ρ : Nat → Nat} {a : Act} {w : World} (hI : Inv C LS MS KS ρ a w)
    {P : Program} {sz : Nat} {all : Array Oper} {st st1 : VS} {o : Oper} {v : VV} {me : ME} {run : Bool} (hs : StepOK P sz all st o v me run st1) (hL : ∀ t ∈ o.looksAt all, LS t = getA st.L t) :
    Region.wanted o (yielded all a.tmps) = run := by
  have hg := hs.guard
  unfold Region.wanted
  cases ho : o.guard with
  | none => rw [ho] at hg; exact hg.symm
  | some gw =>
    obtain ⟨g, want⟩ := gw
    rw [ho] at hg
    obtain ⟨t, ht, h⟩ := hg
    have hmem : t ∈ o.looksAt all := by
      unfold Oper.looksAt
      rw [ho]
      simp only [List.mem_append]
      exact .inr (by rw [ht]; simp)
    have hLt := hL t hmem
    simp only [yielded, ht, Option.bind_some]
    rcases h with ⟨b, hb, rfl⟩ | ⟨hb, rfl⟩
    · obtain ⟨a1, _, _⟩ := hI.tm t _ (hLt.trans hb)
      rw [a1]
      show (some b == some want) = (b == want)
      cases b <;> cases want <;> rfl
    · obtain ⟨a1, _, _⟩ := hI.tm t _ (hLt.trans hb)
      rw [a1]
      rfl

/-- What an operation leaves. -/
theorem step_wp {C : Ctx} {LS LS' : Nat → Option VV} {MS MS' : Nat → Option Blk} {KS : Nat → Prop} {ρ : Nat → Nat} {a : Act} {w : World} (hI : Inv C LS MS KS ρ a w)
    {P : Program} {all : Array Oper} {st st1 : VS} {o : Oper} {v : VV} {me : ME} {run : Bool} (hs : StepOK P C.sz all st o v me run st1) (hn0 : C.n0 ≤ st.n)
    (hL : ∀ t ∈ o.looksAt all, LS t = getA st.L t) (hM : ∀ b ∈ me.rd, MS b = getA st.M b) (hpn : ∀ i, KS i → ¬ (st.n ≤ i ∧ i < st.n + me.nn))
    (hL' : ∀ t, LS' t = if o.dst = some t then some v else LS t) (hM' : ∀ b, MS' b = (getA me.up b).or (MS b))
    {K : Act → World → Prop} {Q : Exit → Act → World → Prop} (hK : ∀ ρ' a' w', Inv C LS' MS' (fun i => KS i ∨ (st.n ≤ i ∧ i < st.n + me.nn)) ρ' a' w' → K a' w') :
    if Region.wanted o (yielded all a.tmps) then o.wp P a w K Q else K (a.put o.dst undef) w := by
  rw [wanted_of hI hs hL]
  cases hr : run with
  | true =>
    obtain ⟨hrd, hop⟩ := hs.oper hr
    obtain ⟨h1, h2⟩ := hop ρ KS a w (fun x hx => by
        cases x with
        | tmp t =>
          intro u hu
          have ht : t ∈ o.looksAt all := List.mem_append_left _ (List.mem_filterMap.2 ⟨.tmp t, hx, rfl⟩)
          obtain ⟨a1, a2, a3⟩ := hI.tm t u ((hL t ht).trans hu)
          exact ⟨by simp [Act.eval, a1], a2, a3⟩
        | _ => exact ev_const ρ KS st.L a _ (by simp))
      (fun b hb blk hblk => by
        obtain ⟨m1, m2, m3, _, _⟩ := hI.mm b blk ((hM b hb).trans hblk)
        exact ⟨m1, m2, m3⟩)
      (fun b c hb hc hb' hc' he => hI.inj b c (by rw [hM b hb]; exact hb') (by rw [hM c hc]; exact hc') he) hpn
    show o.wp P a w K Q
    exact h2 K Q fun ρ' w' hag hms => hK ρ' _ w' (hI.step hs.dst h1 hag hms hn0 hpn (fun b hb _ => by rw [hM b hb]; exact hrd b hb) hL' hM')
  | false =>
    obtain ⟨rfl, rfl⟩ := hs.skip hr
    show K (a.put o.dst undef) w
    refine hK ρ _ w ?_
    have hr : RStep KS st.n (.tup []) {} := ⟨rfl, by simp [VV.ids, VV.idss], fun b blk h => by simp [getA] at h, fun b h => by cases h⟩
    exact hI.step hs.dst hr (fun _ _ => rfl) (MStep.none ρ st.n w []) hn0 hpn (fun b hb => by cases hb) hL' hM'

/-- In the order of the text. -/
theorem region_text {P : Program} {C : Ctx} {all : Array Oper} {Q : Exit → Act → World → Prop} : ∀ {l : List Oper} {st st' : VS} {tr : List (List Nat × List Nat)}, RunOK P C.sz all l st st' tr → C.n0 ≤ st.n →
    ∀ {ρ : Nat → Nat} {a : Act} {w : World}, Rel C ρ st a w → (∀ ρ' a' w', Rel C ρ' st' a' w' → Q .normal a' w') → wpList P all Q l a w := by
  intro l
  induction l with
  | nil =>
    intro st st' tr ⟨env, V, E, R, h0, h1, _, _, _⟩ _ ρ a w hrel hQ
    have : st' = st := by rw [← h1, ← h0]; rfl
    subst this
    exact hQ ρ a w hrel
  | cons o l ih =>
    intro st st' tr ⟨env, V, E, R, h0, h1, h2, h3, h4⟩ hn0 ρ a w hrel hQ
    have hs := h3 0 o rfl
    rw [h0] at hs
    have hrest : RunOK P C.sz all l (env 1) st' tr.tail := by
      refine ⟨fun j => env (j + 1), fun j => V (j + 1), fun j => E (j + 1), fun j => R (j + 1), rfl, by simpa using h1, by simp [h2], fun j q hq => h3 (j + 1) q (by simpa using hq), fun j hj => ?_⟩
      have := h4 (j + 1) (by simpa using hj)
      rw [← this]
      cases tr <;> simp
    have hn : (env 1).n = st.n + (E 0).nn := hs.n
    have key := step_wp hrel hs hn0 (fun _ _ => rfl) (fun _ _ => rfl) (fun i hi => by omega) hs.L hs.M (Q := Q) (K := wpList P all Q l) (fun ρ' a' w' hI => by
      refine ih hrest (by omega) (hI.congr (fun _ => rfl) (fun _ => rfl) fun i => ?_) hQ
      rw [hn]
      constructor
      · rintro (h | h) <;> omega
      · intro h
        by_cases h' : i < st.n
        · exact .inl h'
        · exact .inr (by omega))
    unfold wpList
    split
    · rename_i hw; rw [if_pos hw] at key; exact .inl key
    · rename_i hw; rw [if_neg hw] at key; exact key

theorem wp_region_vm {P : Program} {C : Ctx} {all : Array Oper} {id : Nat} {Q : Exit → Act → World → Prop} {st st' : VS} {tr : List (List Nat × List Nat)} (hrun : RunOK P C.sz all all.toList st st' tr) (hn0 : C.n0 ≤ st.n)
    {ρ : Nat → Nat} {a : Act} {w : World} (hrel : Rel C ρ st a w) (hQ : ∀ ρ' a' w', Rel C ρ' st' a' w' → Q .normal a' w') : (Code.region id all false).wp P Q a w :=
  wp_region_list (region_text hrun hn0 hrel hQ)

end Go.VM
