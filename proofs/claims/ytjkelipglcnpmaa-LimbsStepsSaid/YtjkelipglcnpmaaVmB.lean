/- The machine on virtual values: a part of its definition or of its soundness proof. -/
import Derived.Test.YtjkelipglcnpmaaVmA
namespace Go.VM

/-! ### Lists of numbers -/

/-- The list with another number at a place; what lacks is 0. -/
def setD : List Int → Nat → Int → List Int
  | [], 0, x => [x]
  | _ :: l, 0, x => x :: l
  | [], i + 1, x => 0 :: setD [] i x
  | a :: l, i + 1, x => a :: setD l i x

theorem getD_setD (l : List Int) (i j : Nat) (x : Int) : (setD l i x).getD j 0 = if j = i then x else l.getD j 0 := by
  induction i generalizing l j with
  | zero => cases l <;> cases j <;> simp [setD]
  | succ i ih =>
    cases l with
    | nil => cases j with
      | zero => simp [setD]
      | succ j => simp only [setD, List.getD_cons_succ, ih]; simp
    | cons a l => cases j with
      | zero => simp [setD]
      | succ j => simp only [setD, List.getD_cons_succ, ih]; simp

theorem setD_eq_set (l : List Int) (i : Nat) (x : Int) (h : i < l.length) : setD l i x = l.set i x := by
  induction i generalizing l with
  | zero => cases l with
    | nil => simp at h
    | cons a l => rfl
  | succ i ih => cases l with
    | nil => simp at h
    | cons a l => simp only [setD, List.set_cons_succ]; rw [ih l (by simpa using h)]

/-- The first n, 0 where one lacks. -/
def padT (l : List Int) (n : Nat) : List Int := (List.range n).map fun i => l.getD i 0

/-- l with m's first n in the place of those from i on. -/
def spl (l : List Int) (i n : Nat) (m : List Int) : List Int := padT l i ++ padT m n ++ l.drop (i + n)

theorem getD_padT (l : List Int) (n j : Nat) : (padT l n).getD j 0 = if j < n then l.getD j 0 else 0 := by
  unfold padT
  by_cases h : j < n
  · simp [List.getD, h]
  · simp [List.getD, h]

theorem length_padT (l : List Int) (n : Nat) : (padT l n).length = n := by simp [padT]

theorem getD_spl (l : List Int) (i n : Nat) (m : List Int) (j : Nat) :
    (spl l i n m).getD j 0 = if j < i then l.getD j 0 else if j < i + n then m.getD (j - i) 0 else l.getD j 0 := by
  unfold spl
  by_cases h1 : j < i
  · rw [if_pos h1, List.append_assoc]
    have := getD_padT l i j
    rw [if_pos h1] at this
    rw [← this]
    simp [List.getD, List.getElem?_append, length_padT, h1]
  · rw [if_neg h1]
    by_cases h2 : j < i + n
    · rw [if_pos h2]
      have := getD_padT m n (j - i)
      rw [if_pos (by omega)] at this
      rw [← this]
      simp only [List.getD, List.getElem?_append, List.length_append, length_padT, h1, h2, if_true, if_false]
    · rw [if_neg h2]
      simp only [List.getD, List.getElem?_append, List.length_append, length_padT, h2, if_false, List.getElem?_drop]
      congr 2
      omega

/-! ### What may lie in memory -/

mutual
/-- No tuple, no aggregate of the model behind 'raw', no element's address. -/
def VV.mem : VV → Bool
  | .raw v => v.oneCell'
  | .tup _ => false
  | .pel .. => false
  | .fn _ caps => VV.mems caps
  | .agg l => VV.mems l
  | _ => true
def VV.mems : List VV → Bool
  | [] => true
  | v :: l => VV.mem v && VV.mems l
end

mutual
theorem mem_cells {ρ : Nat → Nat} : ∀ (v : VV), v.mem = true → ∀ c ∈ v.cells ρ, c.oneCell' = true
  | .int .., _, c, h | .bool .., _, c, h | .str .., _, c, h | .ptr .., _, c, h | .sl .., _, c, h | .fn .., _, c, h => by
    simp only [VV.cells, List.mem_singleton] at h; subst h; rfl
  | .pel .., hm, _, _ => by simp [VV.mem] at hm
  | .raw v, hm, c, h => by simp only [VV.cells, List.mem_singleton] at h; subst h; exact hm
  | .tup _, hm, _, _ => by simp [VV.mem] at hm
  | .ints k n l, _, c, h => by simp only [VV.cells, List.mem_map] at h; obtain ⟨_, _, rfl⟩ := h; rfl
  | .agg l, hm, c, h => mems_cells l (by simpa [VV.mem] using hm) c (by simpa [VV.cells] using h)
theorem mems_cells {ρ : Nat → Nat} : ∀ (l : List VV), VV.mems l = true → ∀ c ∈ VV.cellss ρ l, c.oneCell' = true
  | [], _, c, h => by simp [VV.cellss] at h
  | v :: l, hm, c, h => by
    simp only [VV.mems, Bool.and_eq_true] at hm
    simp only [VV.cellss, List.mem_append] at h
    rcases h with h | h
    · exact mem_cells v hm.1 c h
    · exact mems_cells l hm.2 c h
end

theorem sto_of_mem {ρ : Nat → Nat} {v : VV} (h : v.mem = true) (hi : ∀ k n l, v ≠ .ints k n l) : (v.den ρ).cells.toList = v.cells ρ := by
  cases v
  case ints k n l => exact absurd rfl (hi k n l)
  case tup => simp [VV.mem] at h
  case pel => simp [VV.mem] at h
  case raw v => cases v <;> simp [VV.mem, Value.oneCell'] at h <;> rfl
  case agg l => simp [VV.den, VV.den0, Value.cells]
  all_goals rfl

/-! ### A row of runs -/

/-- The run that cell 'off' lies in: what stands ahead of it, the run, the place in it, what stands behind. -/
def findR : List VV → Nat → Option (List VV × VV × Nat × List VV)
  | [], _ => none
  | r :: rs, off => bif Nat.blt off r.w then some ([], r, off, rs) else (findR rs (off - r.w)).map fun p => (r :: p.1, p.2.1, p.2.2.1, p.2.2.2)

theorem findR_spec {l : List VV} {off : Nat} {b : List VV} {r : VV} {i : Nat} {a : List VV} (h : findR l off = some (b, r, i, a)) :
    l = b ++ r :: a ∧ off = VV.ws b + i ∧ i < r.w := by
  induction l generalizing off b with
  | nil => simp [findR] at h
  | cons x l ih =>
    simp only [findR] at h
    cases hb : Nat.blt off x.w with
    | true =>
      simp only [hb, cond_true, Option.some.injEq, Prod.mk.injEq] at h
      obtain ⟨rfl, rfl, rfl, rfl⟩ := h
      exact ⟨rfl, by simp [VV.ws], by simpa [Nat.blt_eq] using hb⟩
    | false =>
      simp only [hb, cond_false, Option.map_eq_some_iff] at h
      obtain ⟨⟨b', r', i', a'⟩, h1, h2⟩ := h
      simp only [Prod.mk.injEq] at h2
      obtain ⟨rfl, rfl, rfl, rfl⟩ := h2
      obtain ⟨rfl, h3, h4⟩ := ih h1
      have : ¬ off < x.w := by
        intro hlt
        have : Nat.blt off x.w = true := by simpa [Nat.blt_eq] using hlt
        rw [hb] at this; cases this
      exact ⟨rfl, by simp only [VV.ws]; omega, h4⟩

/-- The first s cells, as runs. -/
def takeR : List VV → Nat → Option (List VV)
  | [], s => bif Nat.beq s 0 then some [] else none
  | r :: rs, s => bif Nat.beq s 0 then some [] else bif Nat.ble r.w s then (takeR rs (s - r.w)).map (r :: ·) else match r with
    | .ints k _ l => some [.ints k s (l.take s)]
    | _ => none

theorem take_ints {ρ : Nat → Nat} (k : IntKind) (n s i : Nat) (l : List Int) (h : i + s ≤ n) :
    (VV.ints k s ((l.drop i).take s)).cells ρ = (((VV.ints k n l).cells ρ).drop i).take s := by
  simp only [VV.cells]
  apply List.ext_getElem?
  intro j
  by_cases hj : j < s
  · simp [List.getElem?_take, List.getElem?_drop, hj, show i + j < n by omega, List.getD]
  · simp [List.getElem?_take, hj]

theorem takeR_spec {ρ : Nat → Nat} {l : List VV} {s : Nat} {m : List VV} (h : takeR l s = some m) :
    VV.cellss ρ m = (VV.cellss ρ l).take s ∧ s ≤ VV.ws l ∧ VV.ws m = s := by
  induction l generalizing s m with
  | nil =>
    simp only [takeR] at h
    cases hs : Nat.beq s 0 with
    | true =>
      simp [hs] at h; subst h
      have : s = 0 := by simpa using hs
      subst this
      simp [VV.cellss, VV.ws]
    | false => simp [hs] at h
  | cons r rs ih =>
    simp only [takeR] at h
    cases hs : Nat.beq s 0 with
    | true =>
      simp [hs] at h; subst h
      have : s = 0 := by simpa using hs
      subst this
      simp [VV.cellss, VV.ws]
    | false =>
      simp only [hs, cond_false] at h
      cases hb : Nat.ble r.w s with
      | true =>
        simp only [hb, cond_true, Option.map_eq_some_iff] at h
        obtain ⟨m', h1, rfl⟩ := h
        obtain ⟨h2, h3, h4⟩ := ih h1
        have hle : r.w ≤ s := by simpa using hb
        have hl := cells_length ρ r
        refine ⟨?_, by simp only [VV.ws]; omega, by simp only [VV.ws]; omega⟩
        simp only [VV.cellss, h2]
        rw [List.take_append, hl, List.take_of_length_le (l := r.cells ρ) (by omega)]
      | false =>
        simp only [hb, cond_false] at h
        cases r with
        | ints k n l =>
          simp only [Option.some.injEq] at h
          subst h
          have hlt : s < n := by
            have : ¬ n ≤ s := by
              intro hle
              have : Nat.ble (VV.ints k n l).w s = true := by simpa [VV.w] using hle
              rw [hb] at this; cases this
            omega
          refine ⟨?_, by simp only [VV.ws, VV.w]; omega, by simp [VV.ws, VV.w]⟩
          simp only [VV.cellss, List.append_nil]
          have := take_ints (ρ := ρ) k n s 0 l (by omega)
          simp only [List.drop_zero] at this
          rw [this, List.take_append_of_le_length]
          simp [VV.cells]; omega
        | _ => simp at h

theorem takeR_ids {l : List VV} {s : Nat} {m : List VV} (h : takeR l s = some m) : ∀ i ∈ VV.idss m, i ∈ VV.idss l := by
  induction l generalizing s m with
  | nil =>
    simp only [takeR] at h
    cases hs : Nat.beq s 0 <;> simp [hs] at h
    subst h; simp [VV.idss]
  | cons r rs ih =>
    simp only [takeR] at h
    cases hs : Nat.beq s 0 with
    | true => simp [hs] at h; subst h; simp [VV.idss]
    | false =>
      simp only [hs, cond_false] at h
      cases hb : Nat.ble r.w s with
      | true =>
        simp only [hb, cond_true, Option.map_eq_some_iff] at h
        obtain ⟨m', h1, rfl⟩ := h
        intro i hi
        simp only [VV.idss, List.mem_append] at hi ⊢
        exact hi.imp id (ih h1 i)
      | false =>
        simp only [hb, cond_false] at h
        cases r <;> simp at h
        subst h; simp [VV.idss, VV.ids]

/-- The sum of a place and an element's place, in a short form. -/
def ix : Nat → Nat → Nat → Nat
  | 0, j, 1 => j
  | i, j, 1 => i + j
  | 0, j, es => j * es
  | i, j, es => i + j * es

theorem ix_eq (i j es : Nat) : ix i j es = i + j * es := by
  unfold ix; split <;> simp

/-- Read 'size' cells from 'off' on: one, or an aggregate. -/
def loadR (runs : List VV) (off size : Nat) (agg : Bool) : Option VV :=
  (findR runs off).bind fun p => match agg, p.2.1, p.2.2.1 with
    | false, .ints k _ l, i => some (.int k (l.getD i 0))
    | false, .agg _, _ => none
    | false, .tup _, _ => none
    | false, r, _ => some r
    | true, r, 0 => (takeR (r :: p.2.2.2) size).map .agg
    | true, .ints k n l, i + 1 => bif Nat.ble (i + 1 + size) n then some (.agg [.ints k size ((l.drop (i + 1)).take size)]) else none
    | true, _, _ => none

/-- Read element j of n (each es cells) from 'off' on. -/
def loadP (runs : List VV) (off n j es size : Nat) (agg : Bool) : Option VV :=
  (findR runs off).bind fun p => match p.2.1 with
    | .ints k N l => bif Nat.ble (p.2.2.1 + n * es) N && Nat.beq size es then
        match agg with
        | true => some (.agg [.ints k size ((l.drop (ix p.2.2.1 j es)).take size)])
        | false => bif Nat.beq size 1 then some (.int k (l.getD (ix p.2.2.1 j es) 0)) else none
      else loadR runs (off + j * es) size agg
    | _ => loadR runs (off + j * es) size agg

/-- Write. -/
def storeR (runs : List VV) (off : Nat) (v : VV) : Option (List VV) :=
  (findR runs off).bind fun p => match v, p.2.1, p.2.2.1 with
    | .int k x, .ints k' n l, i => if k = k' then some (p.1 ++ .ints k n (setD l i x) :: p.2.2.2) else none
    | .agg [.ints k m l'], .ints k' n l, i =>
        if k = k' then
          bif Nat.beq i 0 && Nat.beq m n then some (p.1 ++ .ints k n l' :: p.2.2.2)
          else bif Nat.ble (i + m) n then some (p.1 ++ .ints k n (spl l i m l') :: p.2.2.2) else none
        else none
    | .agg vs, r, 0 => bif VV.mems vs then (dropR (r :: p.2.2.2) (VV.ws vs)).map fun rest => p.1 ++ vs ++ rest else none
    | .agg _, _, _ => none
    | _, .ints .., _ => none
    | _, .agg _, _ => none
    | v, _, _ => bif v.mem && v.one then some (p.1 ++ v :: p.2.2.2) else none
where
  /-- What stands behind the first s cells, which are whole runs. -/
  dropR : List VV → Nat → Option (List VV)
    | rs, 0 => some rs
    | [], _ => none
    | r :: rs, s => bif Nat.ble r.w s then dropR rs (s - r.w) else none

/-- Write element j of n. -/
def storeP (runs : List VV) (off n j es : Nat) (v : VV) : Option (List VV) :=
  (findR runs off).bind fun p => match p.2.1, v with
    | .ints k N l, .int k' x => if k' = k then bif Nat.ble (p.2.2.1 + n * es) N && Nat.beq es 1 then some (p.1 ++ .ints k N (setD l (ix p.2.2.1 j es) x) :: p.2.2.2) else none else none
    | .ints k N l, .agg [.ints k' m l'] => if k' = k then bif Nat.ble (p.2.2.1 + n * es) N && Nat.beq es m then some (p.1 ++ .ints k N (spl l (ix p.2.2.1 j es) m l') :: p.2.2.2) else none else none
    | _, v => storeR runs (off + j * es) v

theorem mems_append {l m : List VV} : VV.mems (l ++ m) = (VV.mems l && VV.mems m) := by
  induction l with
  | nil => simp [VV.mems]
  | cons v l ih => simp [VV.mems, ih, Bool.and_assoc]

theorem mems_iff {l : List VV} : VV.mems l = true ↔ ∀ v ∈ l, v.mem = true := by
  induction l with
  | nil => simp [VV.mems]
  | cons v l ih => simp [VV.mems, ih]

theorem takeR_mem {l : List VV} {s : Nat} {m : List VV} (h : takeR l s = some m) (hl : VV.mems l = true) : VV.mems m = true := by
  induction l generalizing s m with
  | nil =>
    simp only [takeR] at h
    cases hs : Nat.beq s 0 <;> simp [hs] at h
    subst h; rfl
  | cons r rs ih =>
    simp only [VV.mems, Bool.and_eq_true] at hl
    simp only [takeR] at h
    cases hs : Nat.beq s 0 with
    | true => simp [hs] at h; subst h; rfl
    | false =>
      simp only [hs, cond_false] at h
      cases hb : Nat.ble r.w s with
      | true =>
        simp only [hb, cond_true, Option.map_eq_some_iff] at h
        obtain ⟨m', h1, rfl⟩ := h
        simp [VV.mems, hl.1, ih h1 hl.2]
      | false =>
        simp only [hb, cond_false] at h
        cases r <;> simp at h
        subst h; rfl

theorem getElem_mid {ρ : Nat → Nat} {b a : List VV} {r : VV} {i : Nat} (hi : i < r.w) : (VV.cellss ρ (b ++ r :: a))[VV.ws b + i]? = (r.cells ρ)[i]? := by
  have h1 := cellss_length ρ b
  have h2 := cells_length ρ r
  rw [cellss_append, List.getElem?_append_right (by omega), h1, show VV.ws b + i - VV.ws b = i by omega]
  simp only [VV.cellss]
  rw [List.getElem?_append_left (by omega)]

theorem drop_mid {ρ : Nat → Nat} {b a : List VV} {r : VV} {i : Nat} : (VV.cellss ρ (b ++ r :: a)).drop (VV.ws b + i) = (VV.cellss ρ (r :: a)).drop i := by
  have h1 := cellss_length ρ b
  rw [cellss_append, List.drop_append, h1, List.drop_of_length_le (by omega), show VV.ws b + i - VV.ws b = i by omega, List.nil_append]

/-- One cell, read. -/
theorem loadR_one {ρ : Nat → Nat} {runs : List VV} {off size : Nat} {v : VV} (h : loadR runs off size false = some v) (hm : VV.mems runs = true) :
    (VV.cellss ρ runs)[off]? = some (v.den ρ) ∧ v.mem = true ∧ ∀ i ∈ v.ids, i ∈ VV.idss runs := by
  unfold loadR at h
  obtain ⟨⟨b, r, i, a⟩, h1, h2⟩ := Option.bind_eq_some_iff.1 h
  obtain ⟨rfl, rfl, hi⟩ := findR_spec h1
  rw [getElem_mid hi]
  rw [mems_append] at hm
  simp only [VV.mems, Bool.and_eq_true] at hm
  have hid : ∀ i ∈ r.ids, i ∈ VV.idss (b ++ r :: a) := fun i hi => by simp [idss_append, VV.idss, hi]
  simp only at h2
  cases r
  case ints k n l =>
    simp only [Option.some.injEq] at h2
    subst h2
    simp only [VV.w] at hi
    refine ⟨?_, rfl, by simp [VV.ids]⟩
    simp [VV.cells, hi, VV.den, VV.den0, List.getD]
  case agg => simp at h2
  case tup => simp at h2
  all_goals
    simp only [Option.some.injEq] at h2
    subst h2
    simp only [VV.w] at hi
    obtain rfl : i = 0 := by omega
    exact ⟨rfl, hm.2.1, hid⟩

/-- An aggregate, read. -/
theorem loadR_agg {ρ : Nat → Nat} {runs : List VV} {off size : Nat} {v : VV} (h : loadR runs off size true = some v) (hm : VV.mems runs = true) :
    ∃ l, v = .agg l ∧ VV.cellss ρ l = ((VV.cellss ρ runs).drop off).take size ∧ off + size ≤ VV.ws runs ∧ VV.mems l = true ∧ ∀ i ∈ VV.idss l, i ∈ VV.idss runs := by
  unfold loadR at h
  obtain ⟨⟨b, r, i, a⟩, h1, h2⟩ := Option.bind_eq_some_iff.1 h
  obtain ⟨rfl, rfl, hi⟩ := findR_spec h1
  rw [mems_append] at hm
  simp only [Bool.and_eq_true] at hm
  have hw : VV.ws (b ++ r :: a) = VV.ws b + (r.w + VV.ws a) := by rw [ws_append]; rfl
  rw [drop_mid, hw]
  simp only at h2
  have zero : ∀ m, takeR (r :: a) size = some m → i = 0 → ∃ l, VV.agg m = .agg l ∧ VV.cellss ρ l = ((VV.cellss ρ (r :: a)).drop i).take size ∧ VV.ws b + i + size ≤ VV.ws b + (r.w + VV.ws a) ∧ VV.mems l = true ∧ ∀ i ∈ VV.idss l, i ∈ VV.idss (b ++ r :: a) := by
    rintro m h3 rfl
    obtain ⟨h4, h5, _⟩ := takeR_spec (ρ := ρ) h3
    simp only [VV.ws] at h5
    exact ⟨m, rfl, by rw [List.drop_zero]; exact h4, by omega, takeR_mem h3 hm.2, fun i hi => by rw [idss_append, List.mem_append]; exact .inr (takeR_ids h3 i hi)⟩
  cases i with
  | zero =>
    have h3 : (takeR (r :: a) size).map VV.agg = some v := by
      rw [← h2]
    obtain ⟨m, h4, rfl⟩ := Option.map_eq_some_iff.1 h3
    exact zero m h4 rfl
  | succ i =>
    cases r <;> simp only [reduceCtorEq] at h2
    rename_i k n l
    cases hb : Nat.ble (i + 1 + size) n with
    | false => simp [hb] at h2
    | true =>
      simp only [hb, cond_true, Option.some.injEq] at h2
      subst h2
      have hle : i + 1 + size ≤ n := by simpa using hb
      refine ⟨_, rfl, ?_, by simp only [VV.w]; omega, rfl, by simp [VV.idss, VV.ids]⟩
      simp only [VV.cellss, List.append_nil]
      rw [take_ints k n size (i + 1) l hle, List.drop_append, List.take_append_of_le_length]
      simp [VV.cells]; omega

/-- An element at a place that is reckoned, read. -/
theorem loadP_spec {ρ : Nat → Nat} {runs : List VV} {off n j es size : Nat} {agg : Bool} {v : VV} (h : loadP runs off n j es size agg = some v) (hj : j < n) (hm : VV.mems runs = true) :
    v.mem = true ∧ (∀ i ∈ v.ids, i ∈ VV.idss runs) ∧
    (agg = true → ∃ l, v = .agg l ∧ VV.cellss ρ l = ((VV.cellss ρ runs).drop (off + j * es)).take size ∧ off + j * es + size ≤ VV.ws runs) ∧
    (agg = false → (VV.cellss ρ runs)[off + j * es]? = some (v.den ρ)) := by
  have back : loadR runs (off + j * es) size agg = some v → v.mem = true ∧ (∀ i ∈ v.ids, i ∈ VV.idss runs) ∧
      (agg = true → ∃ l, v = .agg l ∧ VV.cellss ρ l = ((VV.cellss ρ runs).drop (off + j * es)).take size ∧ off + j * es + size ≤ VV.ws runs) ∧
      (agg = false → (VV.cellss ρ runs)[off + j * es]? = some (v.den ρ)) := by
    intro h
    cases agg with
    | true =>
      obtain ⟨l, rfl, g1, g2, g3, g4⟩ := loadR_agg (ρ := ρ) h hm
      exact ⟨by simpa [VV.mem] using g3, by simpa [VV.ids] using g4, fun _ => ⟨l, rfl, g1, g2⟩, (fun e => by cases e)⟩
    | false =>
      obtain ⟨g1, g2, g3⟩ := loadR_one (ρ := ρ) h hm
      exact ⟨g2, g3, (fun e => by cases e), fun _ => g1⟩
  unfold loadP at h
  obtain ⟨⟨b, r, i, a⟩, h1, h2⟩ := Option.bind_eq_some_iff.1 h
  obtain ⟨rfl, rfl, hi⟩ := findR_spec h1
  cases r <;> simp only at h2 <;> try exact back h2
  rename_i k N l
  cases hb : (Nat.ble (i + n * es) N && Nat.beq size es) with
  | false => simp only [hb, cond_false] at h2; exact back h2
  | true =>
    simp only [hb, cond_true] at h2
    simp only [Bool.and_eq_true, Nat.ble_eq, Nat.beq_eq] at hb
    obtain ⟨hb1, rfl⟩ := hb
    have hs : (j + 1) * size ≤ n * size := Nat.mul_le_mul_right _ hj
    rw [Nat.add_mul] at hs
    have hw : VV.ws (b ++ VV.ints k N l :: a) = VV.ws b + (N + VV.ws a) := by rw [ws_append]; rfl
    cases agg with
    | true =>
      simp only [Option.some.injEq] at h2
      subst h2
      refine ⟨rfl, by simp [VV.ids, VV.idss], fun _ => ⟨_, rfl, ?_, by rw [hw]; omega⟩, (fun e => by cases e)⟩
      rw [Nat.add_assoc, drop_mid]
      simp only [VV.cellss, List.append_nil, ix_eq]
      rw [take_ints k N size (i + j * size) l (by omega), List.drop_append, List.take_append_of_le_length]
      simp [VV.cells]; omega
    | false =>
      cases hq : Nat.beq size 1 with
      | false => simp [hq] at h2
      | true =>
        have : size = 1 := by simpa using hq
        subst this
        simp only [hq, cond_true, Option.some.injEq] at h2
        subst h2
        refine ⟨rfl, by simp [VV.ids], (fun e => by cases e), fun _ => ?_⟩
        rw [Nat.add_assoc, getElem_mid (by simp only [VV.w]; omega)]
        simp [VV.cells, ix_eq, show i + j < N by omega, VV.den, VV.den0, List.getD]

/-- cs with vs in the place of those from off on. -/
def splL (cs : List Value) (off : Nat) (vs : List Value) : List Value := cs.take off ++ vs ++ cs.drop (off + vs.length)

theorem splL_mid {ρ : Nat → Nat} {b a : List VV} {r r' : VV} {i : Nat} {vs : List Value} (h : r'.cells ρ = splL (r.cells ρ) i vs) (hi : i + vs.length ≤ r.w) :
    VV.cellss ρ (b ++ r' :: a) = splL (VV.cellss ρ (b ++ r :: a)) (VV.ws b + i) vs := by
  have h1 := cellss_length ρ b
  have h2 := cells_length ρ r
  simp only [cellss_append, VV.cellss, h, splL]
  rw [List.take_append, List.drop_append, h1, List.take_of_length_le (l := VV.cellss ρ b) (by omega), List.drop_of_length_le (l := VV.cellss ρ b) (by omega), show VV.ws b + i - VV.ws b = i by omega,
    show VV.ws b + i + vs.length - VV.ws b = i + vs.length by omega, List.take_append_of_le_length (l₁ := r.cells ρ) (by omega), List.drop_append_of_le_length (l₁ := r.cells ρ) (by omega)]
  simp [List.append_assoc]

theorem cells_setD {ρ : Nat → Nat} (k : IntKind) (n : Nat) (l : List Int) (i : Nat) (x : Int) (hi : i < n) :
    (VV.ints k n (setD l i x)).cells ρ = splL ((VV.ints k n l).cells ρ) i [.int k x] := by
  simp only [VV.cells, splL, List.length_singleton]
  apply List.ext_getElem?
  intro j
  by_cases hj : j < n
  · rw [List.getElem?_map, List.getElem?_range hj]
    simp only [Option.map_some, getD_setD]
    by_cases h1 : j < i
    · rw [if_neg (by omega), List.append_assoc, List.getElem?_append_left (by simp; omega), List.getElem?_take, if_pos h1, List.getElem?_map, List.getElem?_range hj]; rfl
    · by_cases h2 : j = i
      · subst h2
        rw [if_pos rfl, List.append_assoc, List.getElem?_append_right (by simp; omega)]
        simp [show min j n = j by omega]
      · rw [if_neg h2, List.getElem?_append_right (by simp; omega)]
        simp only [List.length_append, List.length_take, List.length_map, List.length_range, List.length_singleton, List.getElem?_drop]
        rw [List.getElem?_map, List.getElem?_range (by omega)]
        simp only [Option.map_some]
        congr 3; omega
  · rw [List.getElem?_eq_none (by simp; omega), List.getElem?_eq_none (by simp; omega)]

theorem cells_spl {ρ : Nat → Nat} (k : IntKind) (n : Nat) (l : List Int) (i m : Nat) (l' : List Int) (hi : i + m ≤ n) :
    (VV.ints k n (spl l i m l')).cells ρ = splL ((VV.ints k n l).cells ρ) i ((VV.ints k m l').cells ρ) := by
  simp only [VV.cells, splL, List.length_map, List.length_range]
  apply List.ext_getElem?
  intro j
  by_cases hj : j < n
  · rw [List.getElem?_map, List.getElem?_range hj]
    simp only [Option.map_some, getD_spl]
    by_cases h1 : j < i
    · rw [if_pos h1, List.append_assoc, List.getElem?_append_left (by simp; omega), List.getElem?_take, if_pos h1, List.getElem?_map, List.getElem?_range hj]; rfl
    · rw [if_neg h1]
      by_cases h2 : j < i + m
      · rw [if_pos h2, List.append_assoc, List.getElem?_append_right (by simp; omega), List.getElem?_append_left (by simp; omega)]
        simp only [List.length_take, List.length_map, List.length_range]
        rw [List.getElem?_map, List.getElem?_range (by omega)]
        simp only [Option.map_some]
        congr 3; omega
      · rw [if_neg h2, List.getElem?_append_right (by simp; omega)]
        simp only [List.length_append, List.length_take, List.length_map, List.length_range, List.getElem?_drop]
        rw [List.getElem?_map, List.getElem?_range (by omega)]
        simp only [Option.map_some]
        congr 3; omega
  · rw [List.getElem?_eq_none (by simp; omega), List.getElem?_eq_none (by simp; omega)]

theorem dropR_spec {ρ : Nat → Nat} {l : List VV} {s : Nat} {m : List VV} (h : storeR.dropR l s = some m) :
    VV.cellss ρ m = (VV.cellss ρ l).drop s ∧ s ≤ VV.ws l ∧ (∀ x ∈ m, x ∈ l) := by
  induction l generalizing s with
  | nil =>
    cases s with
    | zero => simp [storeR.dropR] at h; subst h; simp [VV.cellss]
    | succ s => simp [storeR.dropR] at h
  | cons r rs ih =>
    cases s with
    | zero => simp [storeR.dropR] at h; subst h; simp
    | succ s =>
      simp only [storeR.dropR] at h
      cases hb : Nat.ble r.w (s + 1) with
      | false => simp [hb] at h
      | true =>
        simp only [hb, cond_true] at h
        obtain ⟨h1, h2, h3⟩ := ih h
        have hle : r.w ≤ s + 1 := by simpa using hb
        have hl := cells_length ρ r
        refine ⟨?_, by simp only [VV.ws]; omega, fun x hx => by simp [h3 x hx]⟩
        simp only [VV.cellss]
        rw [List.drop_append, List.drop_of_length_le (by omega), hl, List.nil_append, h1]

theorem idss_cons_mid {b a : List VV} {r : VV} : VV.idss (b ++ r :: a) = VV.idss b ++ (r.ids ++ VV.idss a) := by rw [idss_append]; rfl

/-- A write. -/
theorem storeR_spec {ρ : Nat → Nat} {runs runs' : List VV} {off : Nat} {v : VV} (h : storeR runs off v = some runs') (hm : VV.mems runs = true) (hv : v.mem = true) :
    VV.cellss ρ runs' = splL (VV.cellss ρ runs) off (v.cells ρ) ∧ off + v.w ≤ VV.ws runs ∧ VV.mems runs' = true ∧ ∀ i ∈ VV.idss runs', i ∈ VV.idss runs ∨ i ∈ v.ids := by
  unfold storeR at h
  obtain ⟨⟨b, r, i, a⟩, h1, h2⟩ := Option.bind_eq_some_iff.1 h
  obtain ⟨rfl, rfl, hi⟩ := findR_spec h1
  rw [mems_append] at hm
  simp only [VV.mems, Bool.and_eq_true] at hm
  have hw : VV.ws (b ++ r :: a) = VV.ws b + (r.w + VV.ws a) := by rw [ws_append]; rfl
  have hl := cells_length ρ v
  -- another run in the place of one
  have one : ∀ r', r'.cells ρ = splL (r.cells ρ) i (v.cells ρ) → i + v.w ≤ r.w → r'.mem = true → (∀ x ∈ r'.ids, x ∈ r.ids ∨ x ∈ v.ids) →
      VV.cellss ρ (b ++ r' :: a) = splL (VV.cellss ρ (b ++ r :: a)) (VV.ws b + i) (v.cells ρ) ∧ VV.ws b + i + v.w ≤ VV.ws (b ++ r :: a) ∧ VV.mems (b ++ r' :: a) = true ∧
      ∀ x ∈ VV.idss (b ++ r' :: a), x ∈ VV.idss (b ++ r :: a) ∨ x ∈ v.ids := by
    intro r' hc hle hmem hids
    refine ⟨splL_mid hc (by omega), by rw [hw]; omega, by rw [mems_append]; simp [VV.mems, hm, hmem], fun x hx => ?_⟩
    rw [idss_cons_mid] at hx ⊢
    simp only [List.mem_append] at hx ⊢
    rcases hx with hx | hx | hx
    · exact .inl (.inl hx)
    · rcases hids x hx with h | h
      · exact .inl (.inr (.inl h))
      · exact .inr h
    · exact .inl (.inr (.inr hx))
  -- whole runs in the place of others
  have many : ∀ vs rest, v = .agg vs → i = 0 → storeR.dropR (r :: a) (VV.ws vs) = some rest → VV.mems vs = true →
      VV.cellss ρ (b ++ vs ++ rest) = splL (VV.cellss ρ (b ++ r :: a)) (VV.ws b + i) (v.cells ρ) ∧ VV.ws b + i + v.w ≤ VV.ws (b ++ r :: a) ∧ VV.mems (b ++ vs ++ rest) = true ∧
      ∀ x ∈ VV.idss (b ++ vs ++ rest), x ∈ VV.idss (b ++ r :: a) ∨ x ∈ v.ids := by
    rintro vs rest rfl rfl hd hvs
    obtain ⟨h3, h4, h5⟩ := dropR_spec (ρ := ρ) hd
    have hb := cellss_length ρ b
    have hlv := cellss_length ρ vs
    simp only [VV.ws] at h4
    refine ⟨?_, by rw [hw]; simp only [VV.w]; omega, ?_, fun x hx => ?_⟩
    · simp only [splL, VV.cells, cellss_append, h3, hlv]
      rw [List.take_append, hb, List.take_of_length_le (by omega), List.drop_append, List.drop_of_length_le (l := VV.cellss ρ b) (by omega), hb]
      simp only [Nat.add_zero, Nat.sub_self, List.take_zero, List.append_nil, List.nil_append]
      congr 2; omega
    · rw [mems_append, mems_append]
      simp only [hm.1, hvs, Bool.true_and]
      exact mems_iff.2 fun x hx => by
        have := h5 x hx
        simp only [List.mem_cons] at this
        rcases this with rfl | h
        · exact hm.2.1
        · exact mems_iff.1 hm.2.2 x h
    · simp only [idss_append, List.mem_append, VV.ids] at hx ⊢
      rcases hx with (hx | hx) | hx
      · exact .inl (.inl hx)
      · exact .inr hx
      · obtain ⟨y, hy, hxy⟩ := mem_idss.1 hx
        exact .inl (.inr (mem_idss.2 ⟨y, h5 y hy, hxy⟩))
  simp only at h2
  split at h2
  · -- a number into a run
    rename_i k x k' n l
    split at h2
    · rename_i hk
      subst hk
      simp only [Option.some.injEq] at h2
      subst h2
      simp only [VV.w] at hi
      exact one _ (cells_setD k n l _ x hi) (by simp only [VV.w]; omega) rfl (by simp [VV.ids])
    · simp at h2
  · rename_i k m l' k' n l
    split at h2
    · rename_i hk
      subst hk
      simp only [VV.w] at hi
      cases hb : (Nat.beq i 0 && Nat.beq m n) with
      | true =>
        simp only [hb, cond_true, Option.some.injEq] at h2
        subst h2
        simp only [Bool.and_eq_true, Nat.beq_eq] at hb
        obtain ⟨rfl, rfl⟩ := hb
        refine one _ ?_ (by simp only [VV.w, VV.ws]; omega) rfl (by simp [VV.ids])
        simp only [splL, VV.cells, VV.cellss, List.append_nil, List.take_zero, List.nil_append, Nat.zero_add, List.length_map, List.length_range]
        rw [List.drop_of_length_le (by simp), List.append_nil]
      | false =>
        simp only [hb, cond_false] at h2
        cases hq : Nat.ble (i + m) n with
        | false => simp [hq] at h2
        | true =>
          simp only [hq, cond_true, Option.some.injEq] at h2
          subst h2
          have hle : i + m ≤ n := by simpa using hq
          refine one _ ?_ (by simp only [VV.w, VV.ws]; omega) rfl (by simp [VV.ids])
          rw [cells_spl k n l i m l' hle]
          simp [VV.cells, VV.cellss]
    · simp at h2
  · rename_i vs _
    cases hb : VV.mems vs with
    | false => simp [hb] at h2
    | true =>
      simp only [hb, cond_true] at h2
      obtain ⟨rest, h3, rfl⟩ := Option.map_eq_some_iff.1 h2
      exact many vs rest rfl rfl h3 hb
  · simp at h2
  · simp at h2
  · simp at h2
  · rename_i v' r' i' _ _ _ _ _
    cases hb : (v.mem && v.one) with
    | false => simp [hb] at h2
    | true =>
      simp only [hb, cond_true, Option.some.injEq] at h2
      subst h2
      simp only [Bool.and_eq_true] at hb
      have hv1 : v.w = 1 := by cases v <;> simp [VV.one] at hb <;> rfl
      have hr1 : r.w = 1 := by cases r <;> first | rfl | (exfalso; simp_all)
      obtain rfl : i = 0 := by omega
      refine one v ?_ (by omega) hb.1 (fun x hx => .inr hx)
      have := cells_length ρ r
      rw [one_cells hb.2]
      simp only [splL, List.take_zero, List.nil_append, List.length_singleton, Nat.zero_add]
      rw [List.drop_of_length_le (by omega), List.append_nil]

/-- A write of an element at a place that is reckoned. -/
theorem storeP_spec {ρ : Nat → Nat} {runs runs' : List VV} {off n j es : Nat} {v : VV} (h : storeP runs off n j es v = some runs') (hm : VV.mems runs = true) (hj : j < n) (hv : v.mem = true) :
    VV.cellss ρ runs' = splL (VV.cellss ρ runs) (off + j * es) (v.cells ρ) ∧ off + j * es + v.w ≤ VV.ws runs ∧ VV.mems runs' = true ∧ ∀ i ∈ VV.idss runs', i ∈ VV.idss runs ∨ i ∈ v.ids := by
  have back : storeR runs (off + j * es) v = some runs' → VV.cellss ρ runs' = splL (VV.cellss ρ runs) (off + j * es) (v.cells ρ) ∧ off + j * es + v.w ≤ VV.ws runs ∧ VV.mems runs' = true ∧ ∀ i ∈ VV.idss runs', i ∈ VV.idss runs ∨ i ∈ v.ids :=
    fun h => storeR_spec h hm hv
  unfold storeP at h
  obtain ⟨⟨b, r, i, a⟩, h1, h2⟩ := Option.bind_eq_some_iff.1 h
  obtain ⟨rfl, rfl, hi⟩ := findR_spec h1
  rw [mems_append] at hm
  simp only [VV.mems, Bool.and_eq_true] at hm
  have hl := cells_length ρ v
  have hs : (j + 1) * es ≤ n * es := Nat.mul_le_mul_right _ hj
  rw [Nat.add_mul] at hs
  have one : ∀ k N l l', r = .ints k N l → (VV.ints k N l').cells ρ = splL (r.cells ρ) (i + j * es) (v.cells ρ) → i + j * es + v.w ≤ N →
      VV.cellss ρ (b ++ VV.ints k N l' :: a) = splL (VV.cellss ρ (b ++ r :: a)) (VV.ws b + i + j * es) (v.cells ρ) ∧ VV.ws b + i + j * es + v.w ≤ VV.ws (b ++ r :: a) ∧ VV.mems (b ++ VV.ints k N l' :: a) = true ∧
      ∀ x ∈ VV.idss (b ++ VV.ints k N l' :: a), x ∈ VV.idss (b ++ r :: a) ∨ x ∈ v.ids := by
    rintro k N l l' rfl hc hle
    rw [Nat.add_assoc]
    refine ⟨splL_mid hc (by simp only [VV.w]; omega), by rw [ws_append]; simp only [VV.ws, VV.w]; omega, by rw [mems_append]; simp [VV.mems, hm, VV.mem], fun x hx => ?_⟩
    rw [idss_cons_mid] at hx ⊢
    exact .inl (by simpa [VV.ids] using hx)
  simp only at h2
  split at h2
  · rename_i k N l k' x
    split at h2
    · rename_i hk
      subst hk
      cases hb : (Nat.ble (i + n * es) N && Nat.beq es 1) with
      | false => simp [hb] at h2
      | true =>
        simp only [hb, cond_true, Option.some.injEq] at h2
        subst h2
        simp only [Bool.and_eq_true, Nat.ble_eq, Nat.beq_eq] at hb
        obtain ⟨hb1, rfl⟩ := hb
        refine one _ N l _ rfl ?_ (by simp only [VV.w]; omega)
        rw [ix_eq]
        exact cells_setD _ N l _ x (by omega)
    · simp at h2
  · rename_i k N l k' m l'
    split at h2
    · rename_i hk
      subst hk
      cases hb : (Nat.ble (i + n * es) N && Nat.beq es m) with
      | false => simp [hb] at h2
      | true =>
        simp only [hb, cond_true, Option.some.injEq] at h2
        subst h2
        simp only [Bool.and_eq_true, Nat.ble_eq, Nat.beq_eq] at hb
        obtain ⟨hb1, rfl⟩ := hb
        refine one _ N l _ rfl ?_ (by simp only [VV.w, VV.ws]; omega)
        rw [ix_eq, cells_spl _ N l _ _ l' (by omega)]
        simp [VV.cells, VV.cellss]
    · simp at h2
  · exact back h2

end Go.VM
