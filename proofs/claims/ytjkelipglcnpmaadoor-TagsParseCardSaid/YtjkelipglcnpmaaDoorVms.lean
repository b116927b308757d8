/- The machine on virtual values: its definition and its soundness proof, which hold with no condition but those that each states. -/
import Derived.Test.YtjkelipglcnpmaaDoorVma
import Derived.Laws.Append
import Derived.Laws.IdiomStrings
import Derived.Laws.BytesString
import Derived.Laws.Concat
namespace Go.VM
def subI (l : List Int) (off m : Nat) : List Int := (List.range m).map fun i => l.getD (off + i) 0
def strL (s : ByteArray) : List Int := s.data.toList.map fun b => ((b.toNat : Nat) : Int)
def mkStr (l : List Int) : ByteArray := ⟨(l.map fun x => UInt8.ofNat x.toNat).toArray⟩
def subR (runs : List VV) (off m : Nat) : Option (Bool × List VV) := match runs with
  | [.ints k N l] => some (Nat.ble (off + m) N, [.ints k m (subI l off m)])
  | runs => (storeR.dropR runs off).bind fun r => (takeR r m).map fun t => (true, t)
def subP (runs : List VV) (o n j len : Nat) : Option (Bool × List VV) := (findR runs o).bind fun p => match p.2.1 with
  | .ints k N l => some (Nat.ble (p.2.2.1 + n) N && Nat.ble (j + len) n, [.ints k len (subI l (ix p.2.2.1 j 1) len)])
  | _ => none
def appR (rs : List VV) (len : Nat) (ns : List VV) : Option (Bool × List VV) := match rs, ns with
  | [.ints k N l], [.ints k' m l'] => if k = k' then some (Nat.ble len N, [.ints k (len + m) (padT l len ++ padT l' m)]) else none
  | rs, ns => (takeR rs len).map fun r => (true, r ++ ns)
def srcS (M : List (Nat × Blk)) : VV → Option (Bool × List VV × Nat × List Nat)
  | .sl b off len _ => (getA M b).bind fun x => bif isRo x.2.2 then none else (subR x.1 off len).map fun r => (r.1, r.2, len, [b])
  | .sr b o n j len _ => (getA M b).bind fun x => bif isRo x.2.2 then none else (subP x.1 o n j len).map fun r => (r.1, r.2, len, [b])
  | .vec b off len c => (getA M b).bind fun x => bif isVec c x.2.2 then (subR x.1 off len).map fun r => (r.1, r.2, len, [b]) else none
  | .vw r b off len _ => (getA M b).bind fun x => bif (isRo x.2.2 == r) then (subR x.1 off len).map fun r => (r.1, r.2, len, [b]) else none
  | .str s => some (true, [.ints .u8 s.size (strL s)], s.size, [])
  | .raw (.slice none 0 0) => some (true, [], 0, [])
  | _ => none
theorem ints_sub {ρ : Nat → Nat} {k : IntKind} {N : Nat} {l : List Int} {off m : Nat} (h : off + m ≤ N) :
    VV.cellss ρ [.ints k m (subI l off m)] = ((VV.cellss ρ [.ints k N l]).drop off).take m := by
  simp only [VV.cellss, VV.cells, List.append_nil]
  refine List.ext_getElem? fun i => ?_
  rw [List.getElem?_take, List.getElem?_drop]
  by_cases hi : i < m
  · rw [if_pos hi]
    simp only [List.getElem?_map, List.getElem?_range hi, Option.map_some, List.getElem?_range (show off + i < N by omega)]
    simp [subI, List.getD, hi]
  · rw [if_neg hi, List.getElem?_eq_none (by simp; omega)]
theorem subR_spec {ρ : Nat → Nat} {runs rs : List VV} {off m : Nat} (h : subR runs off m = some (true, rs)) :
    VV.cellss ρ rs = ((VV.cellss ρ runs).drop off).take m ∧ off + m ≤ VV.ws runs ∧ VV.ws rs = m ∧ (VV.mems runs = true → VV.mems rs = true) ∧ ∀ i ∈ VV.idss rs, i ∈ VV.idss runs := by
  unfold subR at h
  split at h
  · rename_i k N l
    simp only [Option.some.injEq, Prod.mk.injEq, Nat.ble_eq] at h
    obtain ⟨h1, rfl⟩ := h
    refine ⟨ints_sub h1, by simpa [VV.ws, VV.w] using h1, by simp [VV.ws, VV.w], fun _ => rfl, by simp [VV.idss, VV.ids]⟩
  · obtain ⟨r, h1, h2⟩ := Option.bind_eq_some_iff.1 h
    obtain ⟨t, h3, h4⟩ := Option.map_eq_some_iff.1 h2
    simp only [Prod.mk.injEq, true_and] at h4
    subst h4
    obtain ⟨d1, d2, d3⟩ := dropR_spec (ρ := ρ) h1
    obtain ⟨t1, t2, t3⟩ := takeR_spec (ρ := ρ) h3
    have hw : VV.ws r = VV.ws runs - off := by rw [← cellss_length ρ, d1, List.length_drop, cellss_length]
    refine ⟨by rw [t1, d1], by omega, t3, fun hm => takeR_mem h3 (mems_iff.2 fun v hv => mems_iff.1 hm v (d3 v hv)), fun i hi => ?_⟩
    obtain ⟨v, hv, hi'⟩ := mem_idss.1 (takeR_ids h3 i hi)
    exact mem_idss.2 ⟨v, d3 v hv, hi'⟩
theorem subP_spec {ρ : Nat → Nat} {runs rs : List VV} {o n j m : Nat} (h : subP runs o n j m = some (true, rs)) :
    VV.cellss ρ rs = ((VV.cellss ρ runs).drop (o + j)).take m ∧ o + j + m ≤ VV.ws runs ∧ VV.ws rs = m ∧ (VV.mems runs = true → VV.mems rs = true) ∧ ∀ i ∈ VV.idss rs, i ∈ VV.idss runs := by
  unfold subP at h
  obtain ⟨⟨b, r, i, a⟩, h1, h2⟩ := Option.bind_eq_some_iff.1 h
  obtain ⟨rfl, rfl, hi⟩ := findR_spec h1
  simp only at h2
  split at h2
  · rename_i k N l
    simp only [Option.some.injEq, Prod.mk.injEq, Bool.and_eq_true, Nat.ble_eq] at h2
    obtain ⟨⟨f1, f2⟩, rfl⟩ := h2
    have hw : VV.ws (b ++ VV.ints k N l :: a) = VV.ws b + (N + VV.ws a) := by rw [ws_append]; rfl
    have hb := cellss_length ρ b
    refine ⟨?_, by rw [hw]; omega, by simp [VV.ws, VV.w], fun _ => rfl, by simp [VV.idss, VV.ids]⟩
    have hl : ((VV.ints k N l).cells ρ).length = N := by simp [VV.cells]
    have hs := ints_sub (ρ := ρ) (k := k) (N := N) (l := l) (off := i + j) (m := m) (by omega)
    have hd : ∀ X : List Value, (VV.cellss ρ b ++ X).drop (VV.ws b + i + j) = X.drop (i + j) := fun X => by
      rw [List.drop_append, hb, List.drop_of_length_le (by omega), List.nil_append, show VV.ws b + i + j - VV.ws b = i + j by omega]
    rw [ix_eq, Nat.mul_one, hs, cellss_append, hd]
    simp only [VV.cellss, List.append_nil]
    rw [List.drop_append_of_le_length (by rw [hl]; omega), List.take_append_of_le_length (by rw [List.length_drop, hl]; omega)]
  · cases h2
theorem ints_app {ρ : Nat → Nat} {k : IntKind} {N len m : Nat} {l l' : List Int} (h : len ≤ N) :
    VV.cellss ρ [.ints k (len + m) (padT l len ++ padT l' m)] = (VV.cellss ρ [.ints k N l]).take len ++ VV.cellss ρ [.ints k m l'] := by
  simp only [VV.cellss, VV.cells, List.append_nil]
  refine List.ext_getElem? fun i => ?_
  rw [List.getElem?_append, List.length_take, List.length_map, List.length_range, Nat.min_eq_left h]
  by_cases hi : i < len
  · rw [if_pos hi, List.getElem?_take, if_pos hi]
    simp only [List.getElem?_map, List.getElem?_range (show i < len + m by omega), List.getElem?_range (show i < N by omega), Option.map_some]
    congr 2
    rw [List.getD_eq_getElem?_getD, List.getElem?_append_left (by rw [length_padT]; exact hi), ← List.getD_eq_getElem?_getD, getD_padT, if_pos hi]
  · rw [if_neg hi]
    by_cases hm : i < len + m
    · simp only [List.getElem?_map, List.getElem?_range hm, List.getElem?_range (show i - len < m by omega), Option.map_some]
      congr 2
      rw [List.getD_eq_getElem?_getD, List.getElem?_append_right (by rw [length_padT]; omega), length_padT, ← List.getD_eq_getElem?_getD, getD_padT, if_pos (by omega)]
    · rw [List.getElem?_eq_none (by simp; omega), List.getElem?_eq_none (by simp; omega)]
theorem appR_spec {ρ : Nat → Nat} {rs ns r : List VV} {len : Nat} (h : appR rs len ns = some (true, r)) :
    VV.cellss ρ r = (VV.cellss ρ rs).take len ++ VV.cellss ρ ns ∧ len ≤ VV.ws rs ∧ VV.ws r = len + VV.ws ns ∧ (VV.mems rs = true → VV.mems ns = true → VV.mems r = true) ∧ ∀ i ∈ VV.idss r, i ∈ VV.idss rs ∨ i ∈ VV.idss ns := by
  unfold appR at h
  split at h
  · rename_i k N l k' m l'
    split at h
    · rename_i hk
      subst hk
      simp only [Option.some.injEq, Prod.mk.injEq, Nat.ble_eq] at h
      obtain ⟨h1, rfl⟩ := h
      exact ⟨ints_app h1, by simpa [VV.ws, VV.w] using h1, by simp [VV.ws, VV.w], fun _ _ => rfl, by simp [VV.idss, VV.ids]⟩
    · cases h
  · obtain ⟨t, h1, h2⟩ := Option.map_eq_some_iff.1 h
    simp only [Prod.mk.injEq, true_and] at h2
    subst h2
    obtain ⟨t1, t2, t3⟩ := takeR_spec (ρ := ρ) h1
    refine ⟨by rw [cellss_append, t1], t2, by rw [ws_append, t3], fun a b => by rw [mems_append, takeR_mem h1 a, b]; rfl, fun i hi => ?_⟩
    rw [idss_append, List.mem_append] at hi
    exact hi.imp (takeR_ids h1 i) id
section
variable {P : Program} {ρ : Nat → Nat} {p : Nat → Prop} {M : List (Nat × Blk)} {w : World}
def Shows (P : Program) (w : World) (v : Value) (cs : List Value) : Prop :=
  (Builtin.lenOf v).run P w = .ok cs.length w ∧ ∀ (w' : World), w'.heap = w.heap → ∀ n, n ≤ cs.length → (Builtin.firstCells 1 n v).run P w' = .ok (cs.take n).toArray w'
theorem shows_row {g off : Nat} {pre cs tail : List Value} {t : TypeId} {fz : Nat × Nat} (cap : Nat) (h : w.heap[g]? = some (.cells (pre ++ cs ++ tail).toArray t fz)) {m i : Nat} (hi : i + m ≤ cs.length) (ho : off = pre.length + i) :
    Shows P w (.slice (some ⟨g, off, none⟩) m cap) ((cs.drop i).take m) := by
  have hl : ((cs.drop i).take m).length = m := by simp; omega
  refine ⟨by rw [hl]; rfl, fun w' hw n hn => ?_⟩
  rw [hl] at hn
  have hl2 : (((cs.drop i).take m).take n).length = n * 1 := by rw [List.length_take, hl]; omega
  refine run_firstCells_some w' 1 n _ _ _ _ hl2 fun j v hv => ?_
  rw [addr_add]
  have hw' : w'.heap[g]? = some (.cells ((pre ++ cs) ++ tail).toArray t fz) := by rw [hw]; exact h
  rw [cell_row (cs := pre ++ cs ++ tail) hw']
  rw [List.getElem?_take] at hv
  split at hv
  · rw [List.getElem?_take] at hv
    split at hv
    · rw [List.getElem?_drop] at hv
      have hlt := (List.getElem?_eq_some_iff.1 hv).1
      rw [List.getElem?_append_left (by simp; omega), List.getElem?_append_right (by omega), ho, show pre.length + i + j - pre.length = i + j by omega]
      exact hv
    · cases hv
  · cases hv
theorem shows_none (a : Option Addr) (cap : Nat) : Shows P w (.slice a 0 cap) [] := by
  refine ⟨rfl, fun w' _ n hn => ?_⟩
  have : n = 0 := by simpa using hn
  subst this
  cases a with
  | none => rfl
  | some a => exact run_firstCells_some w' 1 0 a 0 cap [] rfl (by simp)
theorem shows_str (s : ByteArray) : Shows P w (.string s) (VV.cellss ρ [.ints .u8 s.size (strL s)]) := by
  have hc : VV.cellss ρ [.ints .u8 s.size (strL s)] = s.data.toList.map fun b => Value.int .u8 b.toNat := by
    simp only [VV.cellss, VV.cells, List.append_nil, strL]
    refine List.ext_getElem? fun i => ?_
    by_cases hi : i < s.size
    · simp [List.getD, hi]
    · rw [List.getElem?_eq_none (by simp; omega), List.getElem?_eq_none (by simpa using hi)]
  have hl : (VV.cellss ρ [.ints .u8 s.size (strL s)]).length = s.size := by rw [cellss_length]; rfl
  refine ⟨by rw [hl]; rfl, fun w' _ n hn => ?_⟩
  rw [hl] at hn
  rw [hc]
  simp only [Builtin.firstCells, Sem.run_pure]
  congr 1
  apply Array.ext'
  have : (s.extract 0 n).data.toList = s.data.toList.take n := by simp [ByteArray.extract, ByteArray.copySlice, List.extract_eq_take_drop]
  rw [Array.toList_map, this, List.map_take]
theorem srcS_spec {v : VV} {rs : List VV} {m : Nat} {rd : List Nat} (h : srcS M v = some (true, rs, m, rd)) (hmm : ∀ b ∈ rd, MmOK ρ p M w b) (hvi : ∀ i ∈ v.ids, p i) :
    Shows P w (v.den ρ) (VV.cellss ρ rs) ∧ VV.ws rs = m ∧ VV.mems rs = true ∧ (∀ i ∈ VV.idss rs, p i) ∧ (∀ b ∈ rd, p b) := by
  cases v <;> simp only [srcS, reduceCtorEq] at h
  case sl b off len cap =>
    obtain ⟨x, h1, h2⟩ := Option.bind_eq_some_iff.1 h
    obtain ⟨hro, h2⟩ := ro_no h2
    obtain ⟨⟨f, r⟩, h3, h4⟩ := Option.map_eq_some_iff.1 h2
    simp only [Prod.mk.injEq] at h4
    obtain ⟨rfl, rfl, rfl, rfl⟩ := h4
    obtain ⟨m1, m2, m3⟩ := hmm b (by simp) x h1
    obtain ⟨s1, s2, s3, s4, s5⟩ := subR_spec (ρ := ρ) h3
    refine ⟨?_, s3, s4 m2, fun i hi => m3 i (by simp only [bids, List.mem_append]; exact .inl (s5 i hi)), by simpa using hvi b (by simp [VV.ids])⟩
    rw [s1]
    by_cases h0 : VV.ws x.1 = 0
    · have : len = 0 := by omega
      subst this
      rw [List.take_zero]
      exact shows_none _ _
    · obtain ⟨tail, fz, g1, _⟩ := m1.row hro (by omega)
      exact shows_row (pre := []) cap (by simpa using g1) (by rw [cellss_length]; exact s2) (by simp)
  case sr b o n j len cap =>
    obtain ⟨x, h1, h2⟩ := Option.bind_eq_some_iff.1 h
    obtain ⟨hro, h2⟩ := ro_no h2
    obtain ⟨⟨f, r⟩, h3, h4⟩ := Option.map_eq_some_iff.1 h2
    simp only [Prod.mk.injEq] at h4
    obtain ⟨rfl, rfl, rfl, rfl⟩ := h4
    obtain ⟨m1, m2, m3⟩ := hmm b (by simp) x h1
    obtain ⟨s1, s2, s3, s4, s5⟩ := subP_spec (ρ := ρ) h3
    refine ⟨?_, s3, s4 m2, fun i hi => m3 i (by simp only [bids, List.mem_append]; exact .inl (s5 i hi)), by simpa using hvi b (by simp [VV.ids])⟩
    rw [s1]
    by_cases h0 : VV.ws x.1 = 0
    · have : len = 0 := by omega
      subst this
      rw [List.take_zero]
      exact shows_none _ _
    · obtain ⟨tail, fz, g1, _⟩ := m1.row hro (by omega)
      exact shows_row (pre := []) cap (by simpa using g1) (by rw [cellss_length]; exact s2) (by simp)
  case vec b off len c =>
    obtain ⟨x, h1, h2⟩ := Option.bind_eq_some_iff.1 h
    cases hv : isVec c x.2.2 with
    | false => simp [hv] at h2
    | true =>
      rw [hv] at h2
      simp only [cond_true] at h2
      obtain ⟨⟨f, r⟩, h3, h4⟩ := Option.map_eq_some_iff.1 h2
      simp only [Prod.mk.injEq] at h4
      obtain ⟨rfl, rfl, rfl, rfl⟩ := h4
      obtain ⟨m1, m2, m3⟩ := hmm b (by simp) x h1
      obtain ⟨s1, s2, s3, s4, s5⟩ := subR_spec (ρ := ρ) h3
      refine ⟨?_, s3, s4 m2, fun i hi => m3 i (by simp only [bids, List.mem_append]; exact .inl (s5 i hi)), by simpa using hvi b (by simp [VV.ids])⟩
      rw [s1]
      obtain ⟨rs0, t, kd⟩ := x
      have hk := isVec_eq hv
      simp only at hk
      subst hk
      simp only [VV.den, VV.den0, VV.cells, List.headD_cons]
      by_cases h0 : len = 0
      · subst h0
        rw [List.take_zero]
        exact shows_none _ _
      · have hc0 : ρ c ≠ 0 := by
          intro e
          have := m1.1
          simp only at s2 this
          omega
        rw [if_neg hc0]
        obtain ⟨tail, fz, g1, _⟩ := m1.2 hc0
        exact shows_row (pre := []) _ (by simpa using g1) (by rw [cellss_length]; exact s2) (by simp)
  case vw r b off len g =>
    obtain ⟨x, h1, h2⟩ := Option.bind_eq_some_iff.1 h
    cases hv : (isRo x.2.2 == r) with
    | false => simp [hv] at h2
    | true =>
      rw [hv] at h2
      simp only [cond_true] at h2
      have hr : isRo x.2.2 = r := by simpa using hv
      obtain ⟨⟨f, r'⟩, h3, h4⟩ := Option.map_eq_some_iff.1 h2
      simp only [Prod.mk.injEq] at h4
      obtain ⟨rfl, rfl, rfl, rfl⟩ := h4
      obtain ⟨m1, m2, m3⟩ := hmm b (by simp) x h1
      obtain ⟨s1, s2, s3, s4, s5⟩ := subR_spec (ρ := ρ) h3
      refine ⟨?_, s3, s4 m2, fun i hi => m3 i (by simp only [bids, List.mem_append]; exact .inl (s5 i hi)), by simpa using hvi b (by simp [VV.ids])⟩
      rw [s1]
      simp only [VV.den, VV.den0, VV.cells, List.headD_cons, vwV]
      by_cases h0 : len = 0
      · subst h0
        rw [List.take_zero]
        exact shows_none _ _
      · rw [if_neg (by omega), if_neg (by omega)]
        cases r with
        | false =>
          obtain ⟨tail, fz, g1, _⟩ := m1.row hr (by omega)
          exact shows_row (pre := []) _ (by simpa [baseOf] using g1) (by rw [cellss_length]; exact s2) (by simp [baseOf])
        | true =>
          obtain ⟨rs0, t, kd⟩ := x
          cases kd <;> simp [isRo] at hr
          obtain ⟨pre, tail, t', fz, g1, g2⟩ := m1 (by simp only at s2 ⊢; omega)
          exact shows_row (pre := pre) _ (by simpa [baseOf] using g1) (by rw [cellss_length]; exact s2) (by simp [baseOf, g2])
  case str s =>
    simp only [Option.some.injEq, Prod.mk.injEq, true_and] at h
    obtain ⟨rfl, rfl, rfl⟩ := h
    exact ⟨shows_str s, by simp [VV.ws, VV.w], rfl, by simp [VV.idss, VV.ids], by simp⟩
  case raw v =>
    split at h
    all_goals (rename_i hq)
    case h_6 =>
      simp only [VV.raw.injEq] at hq
      subst hq
      simp only [Option.some.injEq, Prod.mk.injEq, true_and] at h
      obtain ⟨rfl, rfl, rfl⟩ := h
      exact ⟨shows_none _ _, rfl, rfl, by simp [VV.idss], by simp⟩
    case h_7 => cases h
    all_goals cases hq
end
end Go.VM

namespace Go.VM
section
variable {P : Program} {ty : TypeId → Option TI} {L : List (Nat × VV)} {M : List (Nat × Blk)} {n : Nat} {ρ : Nat → Nat} {p : Nat → Prop} {a : Act} {w : World}
theorem run_append_fit {t t2 ty e : TypeId} {it : TypeInfo} {d2 : TypeDesc} (ht : P.underlying t = some (.slice e)) (ht2 : P.underlying t2 = some d2) (hd2 : ∀ k, d2 ≠ .int k) (hi : P.info? e = some it) (hs : it.size = 1)
    {x : Value} {news : List Value} (hx : Shows P w x news) (ad : Addr) (sLen sCap : Nat) (hroom : sLen + news.length ≤ sCap) {w' : World} (hst : (storeCells (ad.add sLen) news 0).run P w = .ok () w') :
    (Builtin.append_ #[t, t2] ty #[.slice (some ad) sLen sCap, x]).run P w = .ok (.slice (some ad) (sLen + news.length) sCap) w' := by
  have hz : ((match d2 with | .int _ => true | _ => false) : Bool) = false := by cases d2 <;> first | rfl | exact absurd rfl (hd2 _)
  have hf := hx.2 w rfl news.length (Nat.le_refl _)
  rw [List.take_length] at hf
  simp [Builtin.append_, run_underlying ht, run_underlying ht2, sizeOf, typeInfo, hi, hs, hx.1, hroom, hf, hst]
theorem run_append_same {t t2 ty e : TypeId} {it : TypeInfo} {d2 : TypeDesc} (ht : P.underlying t = some (.slice e)) (ht2 : P.underlying t2 = some d2) (hd2 : ∀ k, d2 ≠ .int k) (hi : P.info? e = some it) (hs : it.size = 1)
    {x : Value} (hx : Shows P w x []) : (Builtin.append_ #[t, t2] ty #[.slice none 0 0, x]).run P w = .ok (.slice none 0 0) w := by
  have hz : ((match d2 with | .int _ => true | _ => false) : Bool) = false := by cases d2 <;> first | rfl | exact absurd rfl (hd2 _)
  have hf := hx.2 w rfl 0 (Nat.le_refl _)
  have h0 := hx.1
  simp only [List.length_nil] at h0
  simp only [List.take_nil] at hf
  simp [Builtin.append_, run_underlying ht, run_underlying ht2, sizeOf, typeInfo, hi, hs, h0, hf]
theorem run_append_more {t t2 ty e : TypeId} {it : TypeInfo} {z : Value} {d2 : TypeDesc} (ht : P.underlying t = some (.slice e)) (ht2 : P.underlying t2 = some d2) (hd2 : ∀ k, d2 ≠ .int k) (hi : P.info? e = some it) (hs : it.size = 1) (hz : it.zero = some z)
    {x : Value} {olds news : List Value} (hx : Shows P w x news) (base : Option Addr) (sCap : Nat) (hold : Shows P w (.slice base olds.length sCap) olds) (hgrow : sCap < olds.length + news.length) (hb : 1 ≤ it.bytes) (hfit : (olds.length + news.length) * it.bytes ≤ 140737488355328) :
    (Builtin.append_ #[t, t2] ty #[.slice base olds.length sCap, x]).run P w =
      .ok (.slice (some ⟨w.heap.size, 0, none⟩) (olds.length + news.length) (grownCap w (olds.length + news.length) sCap e))
        (w.drew.alloc (.cells (olds ++ news ++ (Builtin.zeroCells z.cells (grownCap w (olds.length + news.length) sCap e - (olds.length + news.length))).toList).toArray e)) := by
  have hz' : ((match d2 with | .int _ => true | _ => false) : Bool) = false := by cases d2 <;> first | rfl | exact absurd rfl (hd2 _)
  have hf := hx.2 w.drew rfl news.length (Nat.le_refl _)
  rw [List.take_length] at hf
  have hfo := hold.2 w.drew rfl olds.length (Nat.le_refl _)
  rw [List.take_length] at hfo
  have hle : olds.length + news.length ≤ (olds.length + news.length) * it.bytes := Nat.le_mul_of_pos_right _ hb
  have hn : ¬ (olds.length + news.length ≤ sCap) := by omega
  have h63' : ¬ (9223372036854775807 < ((olds.length : Int) + (news.length : Int))) := by omega
  have h48' : ¬ (281474976710656 < Builtin.nextslicecap (olds.length + news.length) sCap * it.bytes) := by have := growslice_fits hgrow hfit; omega
  simp [Builtin.append_, run_underlying ht, run_underlying ht2, sizeOf, typeInfo, zeroValue, hi, hs, hz, hx.1, hn, h63', h48', Question.forced, hf, hfo, newRow, grownCap]
  congr 2
  apply Array.ext'
  simp
theorem execOp_builtin {b : Builtin} {args : Array Operand} {ats : Array TypeId} {dst : Option Nat} {type : TypeId} {pos : String} {after : Array Edge} {guard : Option (Nat × Bool)} :
    execOp a.eval ⟨dst, .call { callee := .builtin b, args := args, argTypes := ats }, type, pos, after, guard⟩ = builtin b ats type (args.map fun | .const _ => true | _ => false) (args.map a.eval) := by
  simp only [execOp, resolve]
  rfl
theorem zeroCells_one {z : Value} (h : ∀ v ∈ z.cells.toList, v.oneCell' = true) (hz : 0 < z.cells.size) (k : Nat) : ∀ v ∈ (Builtin.zeroCells z.cells k).toList, v.oneCell' = true := by
  intro v hv
  simp only [Builtin.zeroCells, Array.toList_map, List.mem_map] at hv
  obtain ⟨i, _, rfl⟩ := hv
  have hlt : i % z.cells.size < z.cells.size := Nat.mod_lt _ hz
  apply h
  rw [getElem!_pos z.cells (i % z.cells.size) hlt]
  exact Array.getElem_mem_toList hlt
theorem grownCap_ge' (w : World) (need old : Nat) (e : TypeId) : need ≤ grownCap w need old e := by
  simp [grownCap, Question.cut]
theorem Sound.grown {o : Oper} {e : TypeId} {runs : List VV} {m : Nat} {rd : List Nat} {tail : List Value} {w0 : World} (hw0 : w0.heap = w.heap ∧ w0.os = w.os ∧ w0.tape = w.tape ∧ w0.output = w.output) {fz : Nat × Nat} (hfz : freeFz fz (m + tail.length))
    (hr : (execOp a.eval o).run P w = .ok (.value (.slice (some ⟨w.heap.size, 0, none⟩) m (m + tail.length))) (w0.alloc (.cells (VV.cellss ρ runs ++ tail).toArray e fz)))
    (hm : VV.ws runs = m) (ht : ∀ v ∈ tail, v.oneCell' = true) (hmem : VV.mems runs = true) (hids : ∀ i ∈ VV.idss runs, p i) (hpn : ∀ i, p i → ¬ (n ≤ i ∧ i < n + 2)) (hrd : ∀ b ∈ rd, p b)
    (ob : List (Nat × Blk)) (hob : ∀ b x, getA ob b = some x → b ∈ rd ∧ x.1 = [] ∧ x.2.2 = .dead) :
    Sound P ρ p M n a w o (.vec n 0 m (n + 1)) { rd := rd, up := (n, (runs, e, .vec (n + 1))) :: ob, nn := 2 } := by
  let ρ' : Nat → Nat := fun i => if i = n then w.heap.size else if i = n + 1 then m + tail.length + 1 else ρ i
  have hag : ∀ i, ¬ (n ≤ i ∧ i < n + 2) → ρ' i = ρ i := fun i hi => by
    show (if i = n then _ else if i = n + 1 then _ else ρ i) = ρ i
    rw [if_neg (by omega), if_neg (by omega)]
  have hpρ : ∀ i, p i → ρ' i = ρ i := fun i hi => hag i (hpn i hi)
  have r0 : ρ' n = w.heap.size := by show (if n = n then _ else _) = _; simp
  have r1 : ρ' (n + 1) = m + tail.length + 1 := by show (if n + 1 = n then _ else if n + 1 = n + 1 then _ else _) = _; simp
  have hcell : VV.cellss ρ' runs = VV.cellss ρ runs := cellss_congr runs fun i hi => hpρ i (hids i hi)
  have up2 : ∀ b x, getA ((n, (runs, e, Kd.vec (n + 1))) :: ob) b = some x → (b = n ∧ x = (runs, e, .vec (n + 1))) ∨ (b ≠ n ∧ b ∈ rd ∧ x.1 = [] ∧ x.2.2 = .dead) := by
    intro b x h
    simp only [getA] at h
    cases hb : Nat.beq n b with
    | true =>
      simp only [hb, cond_true, Option.some.injEq] at h
      have : n = b := by simpa using hb
      exact .inl ⟨this.symm, h.symm⟩
    | false =>
      simp only [hb, cond_false] at h
      have : n ≠ b := by rw [← Bool.not_eq_true, Nat.beq_eq] at hb; exact hb
      exact .inr ⟨fun e => this e.symm, hob b x h⟩
  have hnew : (w0.alloc (.cells (VV.cellss ρ runs ++ tail).toArray e fz)).heap[w.heap.size]? = some (.cells (VV.cellss ρ runs ++ tail).toArray e fz) := by
    have := heap_alloc_new w0 (.cells (VV.cellss ρ runs ++ tail).toArray e fz)
    rwa [hw0.1] at this
  have hkept : ∀ k, k < w.heap.size → (w0.alloc (.cells (VV.cellss ρ runs ++ tail).toArray e fz)).heap[k]? = w.heap[k]? := by
    intro k hk
    rw [heap_alloc_old w0 _ _ (by rw [hw0.1]; exact hk), hw0.1]
  refine ⟨⟨rfl, fun i hi => ?_, fun b x h => ?_, hrd⟩, ρ', _, _, .inl hr, ?_, hag, ⟨hw0.2.1, hw0.2.2.1, hw0.2.2.2, by rw [World.alloc]; simp [hw0.1], fun b x h => ?_, fun b x h k hk => ?_, fun b c hbc x y hx hy k hk ho => ?_, fun k hk _ _ => hkept k hk, fun ad had => frozen_kept (hkept _ had)⟩⟩
  · simp only [VV.ids, List.mem_cons, List.not_mem_nil, or_false] at hi
    rcases hi with rfl | rfl
    · exact .inr ⟨Nat.le_refl _, by simp⟩
    · exact .inr ⟨by omega, by simp⟩
  · rcases up2 b x h with ⟨rfl, rfl⟩ | ⟨_, h1, h2, h3⟩
    · refine ⟨.inr ⟨Nat.le_refl _, by simp⟩, hmem, fun i hi => ?_⟩
      simp only [bids, List.mem_append, List.mem_singleton] at hi
      rcases hi with hi | rfl
      · exact .inl (hids i hi)
      · exact .inr ⟨by omega, by simp⟩
    · refine ⟨.inl h1, by rw [h2]; rfl, fun i hi => ?_⟩
      simp only [bids, h2, h3, VV.idss, List.append_nil] at hi
      cases hi
  · simp only [VV.den, VV.den0, VV.cells, List.headD_cons, r0, r1, Nat.sub_zero, Nat.add_sub_cancel]
    rw [if_neg (by omega)]
  · rcases up2 b x h with ⟨rfl, rfl⟩ | ⟨_, h1, h2, h3⟩
    · simp only [Holds, r0, r1, hm, Nat.add_sub_cancel]
      exact ⟨by omega, fun _ => ⟨tail, fz, by rw [hcell]; exact hnew, Nat.le_refl _, ht, hfz⟩⟩
    · obtain ⟨rs, t, kd⟩ := x
      simp only at h2 h3
      subst h2; subst h3
      rfl
  · rcases up2 b x h with ⟨rfl, rfl⟩ | ⟨_, h1, h2, h3⟩
    · simp only [occ, own, r0] at hk
      exact .inl (by omega)
    · obtain ⟨rs, t, kd⟩ := x
      simp only at h2 h3
      subst h3
      simp [occ, own] at hk
  · rcases up2 b x hx with ⟨rfl, rfl⟩ | ⟨_, h1, h2, h3⟩
    · rcases up2 c y hy with ⟨rfl, rfl⟩ | ⟨_, g1, g2, g3⟩
      · exact hbc rfl
      · obtain ⟨rs, t, kd⟩ := y
        simp only at g2 g3
        subst g3
        simp [occ, own] at ho
    · obtain ⟨rs, t, kd⟩ := x
      simp only at h2 h3
      subst h3
      simp [own] at hk
theorem Sound.fits {o : Oper} {b c len m : Nat} {e : TypeId} {rs r ns : List VV} {rd : List Nat} (hb : getA M b = some (rs, e, .vec c)) (hmm : MmOK ρ p M w b) (hbr : b ∈ rd) (hc0 : ρ c ≠ 0)
    (happ : VV.cellss ρ r = (VV.cellss ρ rs).take len ++ VV.cellss ρ ns) (hlen : len ≤ VV.ws rs) (hm : VV.ws ns = m) (hwr : VV.ws r = len + m) (hroom : len + m ≤ ρ c - 1)
    (hr : ∀ w', (storeCells ((⟨ρ b, 0, none⟩ : Addr).add len) (VV.cellss ρ ns) 0).run P w = .ok () w' → (execOp a.eval o).run P w = .ok (.value (.slice (some ⟨ρ b, 0, none⟩) (len + m) (ρ c - 1))) w')
    (hmr : VV.mems r = true) (hmn : VV.mems ns = true) (hids : ∀ i ∈ VV.idss r, p i) (hpn : ∀ i, p i → ¬ (n ≤ i ∧ i < n + 2)) (hrd : ∀ b ∈ rd, p b) :
    Sound P ρ p M n a w o (.vec n 0 (len + m) (n + 1)) { rd := rd, up := [(n, (r, e, .vec (n + 1))), (b, ([], e, .dead))], nn := 2 } := by
  obtain ⟨h1, h2, h3⟩ := hmm _ hb
  obtain ⟨hw1, hh⟩ := h1
  obtain ⟨tail, fz, g1, g2, g3, g4⟩ := hh hc0
  simp only at g1 g2 hw1
  have hpb : p b := hrd b hbr
  have hbn : b ≠ n := fun e => hpn b hpb (by subst e; omega)
  have hpc : p c := h3 c (by simp [bids])
  have hl1 := cellss_length ρ rs
  have hl2 : (VV.cellss ρ ns).length = m := by rw [cellss_length, hm]
  have hst := run_storeCells (P := P) (ρ b) e fz (VV.cellss ρ ns) (0 + len) 0 (VV.cellss ρ rs ++ tail) w g1 (by rw [List.length_append, hl1, hl2]; omega) (fun j hj => g4 j (by rw [hl2] at hj; omega)) (mems_cells ns hmn)
  rw [← addr_add] at hst
  have hrun := hr _ hst
  have hcells : splL (VV.cellss ρ rs ++ tail) (0 + len + 0) (VV.cellss ρ ns) = VV.cellss ρ r ++ (VV.cellss ρ rs ++ tail).drop (len + m) := by
    unfold splL
    rw [happ, hl2, List.take_append_of_le_length (by rw [hl1]; omega), show 0 + len + 0 = len by omega]
  rw [hcells] at hrun
  let ρ' : Nat → Nat := fun i => if i = n then ρ b else if i = n + 1 then ρ c else ρ i
  have hag : ∀ i, ¬ (n ≤ i ∧ i < n + 2) → ρ' i = ρ i := fun i hi => by
    show (if i = n then _ else if i = n + 1 then _ else ρ i) = ρ i
    rw [if_neg (by omega), if_neg (by omega)]
  have hpρ : ∀ i, p i → ρ' i = ρ i := fun i hi => hag i (hpn i hi)
  have r0 : ρ' n = ρ b := by show (if n = n then _ else _) = _; simp
  have r1 : ρ' (n + 1) = ρ c := by show (if n + 1 = n then _ else if n + 1 = n + 1 then _ else _) = _; simp
  have hcell : VV.cellss ρ' r = VV.cellss ρ r := cellss_congr r fun i hi => hpρ i (hids i hi)
  have up2 : ∀ d x, getA [(n, (r, e, Kd.vec (n + 1))), (b, ([], e, Kd.dead))] d = some x → (d = n ∧ x = (r, e, .vec (n + 1))) ∨ (d = b ∧ x = ([], e, .dead)) := by
    intro d x h
    simp only [getA] at h
    cases hd : Nat.beq n d with
    | true =>
      simp only [hd, cond_true, Option.some.injEq] at h
      have : n = d := by simpa using hd
      exact .inl ⟨this.symm, h.symm⟩
    | false =>
      simp only [hd, cond_false] at h
      cases hd2 : Nat.beq b d with
      | true =>
        simp only [hd2, cond_true, Option.some.injEq] at h
        have : b = d := by simpa using hd2
        exact .inr ⟨this.symm, h.symm⟩
      | false => simp [hd2] at h
  have key := setRow_heap w (ρ b) _ (VV.cellss ρ r ++ (VV.cellss ρ rs ++ tail).drop (len + m)).toArray e fz g1
  have hld : ((VV.cellss ρ rs ++ tail).drop (len + m)).length = VV.ws rs + tail.length - (len + m) := by rw [List.length_drop, List.length_append, hl1]
  refine ⟨⟨rfl, fun i hi => ?_, fun d x h => ?_, hrd⟩, ρ', _, _, .inl hrun, ?_, hag, ⟨rfl, rfl, rfl, by simp [World.setRow], fun d x h => ?_, fun d x h k hk => ?_, fun d d' hdd x y hx hy k hk ho => ?_, fun k hk hne _ => ?_, fun ad had => ?_⟩⟩
  · simp only [VV.ids, List.mem_cons, List.not_mem_nil, or_false] at hi
    rcases hi with rfl | rfl
    · exact .inr ⟨Nat.le_refl _, by simp⟩
    · exact .inr ⟨by omega, by simp⟩
  · rcases up2 d x h with ⟨rfl, rfl⟩ | ⟨rfl, rfl⟩
    · refine ⟨.inr ⟨Nat.le_refl _, by simp⟩, hmr, fun i hi => ?_⟩
      simp only [bids, List.mem_append, List.mem_singleton] at hi
      rcases hi with hi | rfl
      · exact .inl (hids i hi)
      · exact .inr ⟨by omega, by simp⟩
    · exact ⟨.inl hbr, rfl, fun i hi => by simp [bids, VV.idss] at hi⟩
  · simp only [VV.den, VV.den0, VV.cells, List.headD_cons, r0, r1, Nat.sub_zero]
    rw [if_neg hc0]
  · rcases up2 d x h with ⟨rfl, rfl⟩ | ⟨rfl, rfl⟩
    · simp only [Holds, r0, r1, hwr]
      refine ⟨hroom, fun _ => ⟨_, fz, by rw [hcell]; exact key, by rw [hld]; omega, fun v hv => ?_, g4⟩⟩
      rcases List.mem_append.1 (List.mem_of_mem_drop hv) with hv | hv
      · exact mems_cells rs h2 v hv
      · exact g3 v hv
    · rfl
  · rcases up2 d x h with ⟨rfl, rfl⟩ | ⟨rfl, rfl⟩
    · simp only [occ, own, r0] at hk
      have ho : own ρ' b (rs, e, .vec c) k := by
        simp only [own, hpρ c hpc, hpρ b hpb]; exact ⟨hc0, hk.2⟩
      exact .inr ⟨b, hbr, _, hb, ho, fun _ => ho, fun _ => by
        have : Nat.beq d b = false := by rw [← Bool.not_eq_true, Nat.beq_eq]; exact fun e => hbn e.symm
        simp [getA, this]⟩
    · simp [occ, own] at hk
  · rcases up2 d x hx with ⟨rfl, rfl⟩ | ⟨rfl, rfl⟩
    · rcases up2 d' y hy with ⟨rfl, rfl⟩ | ⟨rfl, rfl⟩
      · exact hdd rfl
      · simp [occ, own] at ho
    · simp [own] at hk
  · refine setRow_other w _ _ _ fun e' => hne n (r, e, .vec (n + 1)) (by simp [getA]) ?_
    simp only [own, r0, r1]
    exact ⟨hc0, e'⟩
  · unfold World.frozen?
    by_cases hk : ad.block = ρ b
    · rw [hk, key, g1]
    · rw [setRow_other w _ _ _ hk]
def fitB (x : Nat) : Bool := Nat.ble x 140737488355328
def notInt : TypeDesc → Bool
  | .int _ => false
  | _ => true
theorem notInt_spec {d : TypeDesc} (h : notInt d = true) (k : IntKind) : d ≠ .int k := by
  intro e; subst e; cases h
def appS (M : List (Nat × Blk)) (n : Nat) (e : TypeId) (bytes : Nat) (q : Bool × List VV × Nat × List Nat) : VV → Option (Bool × VV × ME)
  | .raw (.slice none 0 0) => some (q.1 && fitB (q.2.2.1 * bytes), .vec n 0 q.2.2.1 (n + 1), { rd := q.2.2.2, up := [(n, (q.2.1, e, .vec (n + 1)))], nn := 2 })
  | .vec b off len c => (getA M b).bind fun x => bif isVec c x.2.2 && Nat.beq off 0 && Nat.beq x.2.1 e then
      (appR x.1 len q.2.1).map fun r => (q.1 && r.1 && fitB ((len + q.2.2.1) * bytes), .vec n 0 (len + q.2.2.1) (n + 1), { rd := b :: q.2.2.2, up := [(n, (r.2, e, .vec (n + 1))), (b, ([], e, .dead))], nn := 2 }) else none
  | _ => none
theorem appS_sound {o : Oper} {t t2 e : TypeId} {i2 ie : TI} (hti2 : TyOK P t2 i2) (hte : TyOK P e ie) (hts : P.underlying t = some (.slice e)) (hsz : ie.size = 1) (hby : 1 ≤ ie.bytes) (hni : notInt i2.desc = true)
    {s : VV} {xv : Value} {q : Bool × List VV × Nat × List Nat} {v : VV} {me : ME} (h : appS M n e ie.bytes q s = some (true, v, me)) (hmm : ∀ b ∈ me.rd, MmOK ρ p M w b) (hsi : ∀ i ∈ s.ids, p i)
    (hq : q.1 = true → Shows P w xv (VV.cellss ρ q.2.1) ∧ VV.ws q.2.1 = q.2.2.1 ∧ VV.mems q.2.1 = true ∧ (∀ i ∈ VV.idss q.2.1, p i) ∧ (∀ b ∈ q.2.2.2, p b)) (hpn : ∀ i, p i → ¬ (n ≤ i ∧ i < n + me.nn))
    (hr : ∀ rv w', (Builtin.append_ #[t, t2] o.type #[s.den ρ, xv]).run P w = .ok rv w' → (execOp a.eval o).run P w = .ok (.value rv) w') : Sound P ρ p M n a w o v me := by

  have hinf := hte.info
  cases hie : P.info? e with
  | none => simp [hie] at hinf
  | some it =>
  simp [hie] at hinf
  obtain ⟨hs1, z, hz1, hz2⟩ := hinf
  have hs : it.size = 1 := by rw [hs1, hsz]
  have hbb := hte.bys (by omega)
  simp [hie] at hbb
  have hzl : z.cells.size = 1 := by
    have := congrArg List.length hz2
    rw [cellss_length, hte.wsz, hsz] at this
    simpa using this
  have hz1c : ∀ v ∈ z.cells.toList, v.oneCell' = true := by rw [hz2]; exact mems_cells _ hte.mem

  have empty : ∀ {b' : Nat} (ob : List (Nat × Blk)) (rd : List Nat) (r : List VV) (m : Nat), s.den ρ = .slice none 0 0 → Shows P w xv (VV.cellss ρ r) → VV.ws r = m → VV.mems r = true → (∀ i ∈ VV.idss r, p i) → (∀ b ∈ rd, p b) → m * ie.bytes ≤ 140737488355328 →
      (∀ i, p i → ¬ (n ≤ i ∧ i < n + 2)) → (∀ b x, getA ob b = some x → b ∈ rd ∧ x.1 = [] ∧ x.2.2 = .dead) →
      (∀ b x, getA ob b = some x → b ≠ n) → Sound P ρ p M n a w o (.vec n 0 m (n + 1)) { rd := rd, up := (n, (r, e, .vec (n + 1))) :: ob, nn := 2 } := by
    intro _ ob rd r m hd hsh hw hmem hids hrd hfit hpn' hob _
    by_cases hm : m = 0
    ·
      have hnil : VV.cellss ρ r = [] := List.length_eq_zero_iff.1 (by rw [cellss_length, hw, hm])
      rw [hnil] at hsh
      have hrun := hr _ _ (by rw [hd]; exact run_append_same (ty := o.type) hts hti2.desc (notInt_spec hni) hie hs hsh)
      subst hm
      let ρ' : Nat → Nat := fun i => if i = n ∨ i = n + 1 then 0 else ρ i
      have hag : ∀ i, ¬ (n ≤ i ∧ i < n + 2) → ρ' i = ρ i := fun i hi => if_neg (by omega)
      have r1 : ρ' (n + 1) = 0 := if_pos (.inr rfl)
      have up2 : ∀ d x, getA ((n, (r, e, Kd.vec (n + 1))) :: ob) d = some x → (d = n ∧ x = (r, e, .vec (n + 1))) ∨ (d ∈ rd ∧ x.1 = [] ∧ x.2.2 = .dead) := by
        intro d x h
        simp only [getA] at h
        cases hd' : Nat.beq n d with
        | true =>
          simp only [hd', cond_true, Option.some.injEq] at h
          have : n = d := by simpa using hd'
          exact .inl ⟨this.symm, h.symm⟩
        | false => simp only [hd', cond_false] at h; exact .inr (hob d x h)
      have noown : ∀ d x, getA ((n, (r, e, Kd.vec (n + 1))) :: ob) d = some x → ∀ k, ¬ own ρ' d x k ∧ ¬ occ ρ' d x k := by
        intro d x h k
        rcases up2 d x h with ⟨rfl, rfl⟩ | ⟨_, h2, h3⟩
        · simp [own, occ, r1]
        · obtain ⟨rs, t', kd⟩ := x
          simp only at h2 h3
          subst h3
          simp [own, occ]
      refine ⟨⟨rfl, fun i hi => ?_, fun d x h => ?_, hrd⟩, ρ', _, _, .inl hrun, ?_, hag, ⟨rfl, rfl, rfl, Nat.le_refl _, fun d x h => ?_, fun d x h k hk => absurd hk (noown d x h k).2, fun d d' _ x y hx _ k hk _ => (noown d x hx k).1 hk, fun _ _ _ _ => rfl, fun _ _ => rfl⟩⟩
      · simp only [VV.ids, List.mem_cons, List.not_mem_nil, or_false] at hi
        rcases hi with rfl | rfl
        · exact .inr ⟨Nat.le_refl _, by simp⟩
        · exact .inr ⟨by omega, by simp⟩
      · rcases up2 d x h with ⟨rfl, rfl⟩ | ⟨h1, h2, h3⟩
        · refine ⟨.inr ⟨Nat.le_refl _, by simp⟩, hmem, fun i hi => ?_⟩
          simp only [bids, List.mem_append, List.mem_singleton] at hi
          rcases hi with hi | rfl
          · exact .inl (hids i hi)
          · exact .inr ⟨by omega, by simp⟩
        · refine ⟨.inl h1, by rw [h2]; rfl, fun i hi => ?_⟩
          simp only [bids, h2, h3, VV.idss, List.append_nil] at hi
          cases hi
      · simp [VV.den, VV.den0, VV.cells, r1]
      · rcases up2 d x h with ⟨rfl, rfl⟩ | ⟨_, h2, h3⟩
        · simp only [Holds, r1, hw]
          exact ⟨by omega, fun h => absurd rfl h⟩
        · obtain ⟨rs, t', kd⟩ := x
          simp only at h2 h3
          subst h2; subst h3
          rfl
    · have hl : (VV.cellss ρ r).length = m := by rw [cellss_length, hw]
      have hge := grownCap_ge' w m 0 e
      have hrun := run_append_more (w := w) (ty := o.type) hts hti2.desc (notInt_spec hni) hie hs hz1 (olds := []) (news := VV.cellss ρ r) hsh none 0 (shows_none _ _) (by simp only [List.length_nil]; omega) (by omega) (by simp only [List.length_nil, hl, Nat.zero_add, hbb]; exact hfit)
      simp only [List.length_nil, hl, Nat.zero_add, List.nil_append] at hrun
      have htl : (Builtin.zeroCells z.cells (grownCap w m 0 e - m)).toList.length = grownCap w m 0 e - m := by simp [Builtin.zeroCells, hzl]
      refine Sound.grown (w := w) (w0 := w.drew) ⟨rfl, rfl, rfl, rfl⟩ (fz := (0, 0)) (tail := (Builtin.zeroCells z.cells (grownCap w m 0 e - m)).toList) (fun j _ => by simp) ?_ hw (zeroCells_one hz1c (by omega) _) hmem hids hpn' hrd ob hob
      rw [htl, show m + (grownCap w m 0 e - m) = grownCap w m 0 e by omega]
      exact hr _ _ (by rw [hd]; exact hrun)
  unfold appS at h
  split at h
  · simp only [Option.some.injEq, Prod.mk.injEq, Bool.and_eq_true, fitB, Nat.ble_eq] at h
    obtain ⟨⟨h1, h2⟩, rfl, rfl⟩ := h
    obtain ⟨q1, q2, q3, q4, q5⟩ := hq h1
    exact empty (b' := 0) [] _ _ _ rfl q1 q2 q3 q4 q5 h2 hpn (fun _ _ h => by simp [getA] at h) (fun _ _ h => by simp [getA] at h)
  · rename_i b off len c
    obtain ⟨⟨rs, te, kd⟩, h1, h2⟩ := Option.bind_eq_some_iff.1 h
    cases hb : (isVec c kd && Nat.beq off 0 && Nat.beq te e) with
    | false => simp [hb] at h2
    | true =>
    simp only [hb, cond_true] at h2
    simp only [Bool.and_eq_true, Nat.beq_eq] at hb
    obtain ⟨⟨hk, rfl⟩, rfl⟩ := hb
    have hk := isVec_eq hk
    subst hk
    obtain ⟨⟨f, r⟩, h3, h4⟩ := Option.map_eq_some_iff.1 h2
    simp only [Prod.mk.injEq, Bool.and_eq_true, fitB, Nat.ble_eq] at h4
    obtain ⟨⟨⟨h5, rfl⟩, h6⟩, rfl, rfl⟩ := h4
    obtain ⟨q1, q2, q3, q4, q5⟩ := hq h5
    obtain ⟨a1, a2, a3, a4, a5⟩ := appR_spec (ρ := ρ) h3
    have hm := hmm b (by simp)
    obtain ⟨m1, m2, m3⟩ := hm _ h1
    have hrd : ∀ d ∈ b :: q.2.2.2, p d := fun d hd => (List.mem_cons.1 hd).elim (fun e => by subst e; exact hsi d (by simp [VV.ids])) (q5 d)
    have hids : ∀ i ∈ VV.idss r, p i := fun i hi => (a5 i hi).elim (fun hi => m3 i (by simp only [bids, List.mem_append]; exact .inl hi)) (q4 i)
    have hbn : b ≠ n := fun e => hpn b (hrd b (by simp)) (by subst e; simp)
    have hob : ∀ d x, getA [(b, (([] : List VV), te, Kd.dead))] d = some x → d ∈ b :: q.2.2.2 ∧ x.1 = [] ∧ x.2.2 = .dead := fun d x h => by
      obtain ⟨rfl, rfl⟩ := getA_one h
      exact ⟨by simp, rfl, rfl⟩
    obtain ⟨hw1, hh⟩ := m1
    simp only at hw1
    by_cases hc0 : ρ c = 0
    · have hl0 : len = 0 := by omega
      have hd : (VV.vec b 0 len c).den ρ = .slice none 0 0 := by simp [VV.den, VV.den0, VV.cells, hc0, hl0]
      have := empty (b' := b) [(b, ([], te, .dead))] (b :: q.2.2.2) r (len + q.2.2.1) hd (by rw [a1, hl0]; simpa using q1) (by rw [a3, q2]) (a4 m2 q3) hids hrd h6 hpn hob (fun d x h => by obtain ⟨rfl, _⟩ := getA_one h; exact hbn)
      exact this
    · have hd : (VV.vec b 0 len c).den ρ = .slice (some ⟨ρ b, 0, none⟩) len (ρ c - 1) := by simp [VV.den, VV.den0, VV.cells, hc0]
      have hl2 : (VV.cellss ρ q.2.1).length = q.2.2.1 := by rw [cellss_length, q2]
      by_cases hroom : len + q.2.2.1 ≤ ρ c - 1
      · refine Sound.fits h1 hm (by simp) hc0 a1 a2 q2 (by rw [a3, q2]) hroom (fun w' hst => hr _ _ ?_) (a4 m2 q3) q3 hids hpn hrd
        have := run_append_fit (w := w) (ty := o.type) hts hti2.desc (notInt_spec hni) hie hs q1 ⟨ρ b, 0, none⟩ len (ρ c - 1) (by rw [hl2]; exact hroom) hst
        rw [hl2] at this
        rw [hd]; exact this
      · obtain ⟨tail, fz, g1, g2, g3, g4⟩ := hh hc0
        simp only at g1
        have hlo : ((VV.cellss ρ rs).take len).length = len := by rw [List.length_take, cellss_length]; omega
        have hold : Shows P w (.slice (some ⟨ρ b, 0, none⟩) ((VV.cellss ρ rs).take len).length (ρ c - 1)) ((VV.cellss ρ rs).take len) := by
          rw [hlo]
          have := shows_row (P := P) (w := w) (g := ρ b) (off := 0) (pre := []) (cs := VV.cellss ρ rs) (tail := tail) (t := te) (fz := fz) (ρ c - 1) (by simpa using g1) (m := len) (i := 0) (by rw [cellss_length]; omega) (by simp)
          simpa using this
        have hrun := run_append_more (w := w) (ty := o.type) hts hti2.desc (notInt_spec hni) hie hs hz1 q1 (some ⟨ρ b, 0, none⟩) (ρ c - 1) hold (by rw [hlo, hl2]; omega) (by omega) (by rw [hlo, hl2, hbb]; exact h6)
        rw [hlo, hl2, ← a1] at hrun
        have hge := grownCap_ge' w (len + q.2.2.1) (ρ c - 1) te
        have htl : (Builtin.zeroCells z.cells (grownCap w (len + q.2.2.1) (ρ c - 1) te - (len + q.2.2.1))).toList.length = grownCap w (len + q.2.2.1) (ρ c - 1) te - (len + q.2.2.1) := by simp [Builtin.zeroCells, hzl]
        refine Sound.grown (w := w) (w0 := w.drew) ⟨rfl, rfl, rfl, rfl⟩ (fz := (0, 0)) (tail := (Builtin.zeroCells z.cells (grownCap w (len + q.2.2.1) (ρ c - 1) te - (len + q.2.2.1))).toList) (fun j _ => by simp) ?_ (by rw [a3, q2]) (zeroCells_one hz1c (by omega) _) (a4 m2 q3) hids hpn hrd [(b, ([], te, .dead))] hob
        rw [htl, show len + q.2.2.1 + (grownCap w (len + q.2.2.1) (ρ c - 1) te - (len + q.2.2.1)) = grownCap w (len + q.2.2.1) (ρ c - 1) te by omega]
        exact hr _ _ (by rw [hd]; exact hrun)
  · cases h
end
end Go.VM

namespace Go.VM
def evO (L : List (Nat × VV)) : Option Operand → Option (Option (IntKind × Int))
  | none => some none
  | some x => (ev L x).bind fun v => match v with
    | .int k n => some (some (k, n))
    | _ => none
def bndF (o : Option (IntKind × Int)) (y : Nat) : Bool := match o with
  | some p => decide (0 ≤ p.2 ∧ p.2 ≤ (y : Int))
  | none => true
def bndN (o : Option (IntKind × Int)) (d : Nat) : Nat := match o with
  | some p => p.2.toNat
  | none => d
def cutO (lo : Option (IntKind × Int)) (off l m : Nat) : Nat := match lo with
  | none => off
  | some _ => bif Nat.beq m l then off else off + l
def cutS (M : List (Nat × Blk)) (n : Nat) (lo hi mx : Option (IntKind × Int)) : VV → Option (Bool × VV × ME)
  | .sl b off len cap => bif mx.isNone || hi.isSome then
      some (bndF mx cap && bndF hi (bndN mx cap) && bndF lo (bndN hi len), .sl b (cutO lo off (bndN lo 0) (bndN mx cap)) (bndN hi len - bndN lo 0) (bndN mx cap - bndN lo 0), {}) else none
  | .vec b off len c => match lo, hi, mx with
    | none, none, none => some (true, .vec b off len c, {})
    | none, some p, none => (getA M b).bind fun x => bif isVec c x.2.2 then some (decide (0 ≤ p.2 ∧ p.2 ≤ (len : Int)) && Nat.ble (off + len) (VV.ws x.1), .vec b off p.2.toNat c, { rd := [b] }) else none
    | lo, hi, none => (getA M b).bind fun x => bif isVec c x.2.2 then
        some (bndF hi len && bndF lo (bndN hi len) && Nat.ble (off + len) (VV.ws x.1), .vw false b (off + bndN lo 0) (bndN hi len - bndN lo 0) n, { rd := [b], nn := 1 }) else none
    | _, _, _ => none
  | .vw r b off len g => match lo, hi, mx with
    | none, none, none => some (true, .vw r b off len g, {})
    | lo, hi, none => some (bndF hi len && bndF lo (bndN hi len), .vw r b (off + bndN lo 0) (bndN hi len - bndN lo 0) n, { nn := 1 })
    | _, _, _ => none
  | .raw (.slice none 0 0) => bif mx.isNone then some (bndF hi 0 && bndF lo (bndN hi 0), .raw (.slice none 0 0), {}) else none
  | _ => none
def cutA (lo hi mx : Option (IntKind × Int)) (N : Nat) : VV → Option (Bool × VV × ME)
  | .ptr b off => bif mx.isNone || hi.isSome then
      some (bndF mx N && bndF hi (bndN mx N) && bndF lo (bndN hi N), .sl b (cutO lo off (bndN lo 0) (bndN mx N)) (bndN hi N - bndN lo 0) (bndN mx N - bndN lo 0), {}) else none
  | .pel b off _ j es => bif mx.isNone || hi.isSome then
      some (bndF mx N && bndF hi (bndN mx N) && bndF lo (bndN hi N), .sl b (cutO lo (off + j * es) (bndN lo 0) (bndN mx N)) (bndN hi N - bndN lo 0) (bndN mx N - bndN lo 0), {}) else none
  | _ => none
section
variable {P : Program} {ty : TypeId → Option TI} {L : List (Nat × VV)} {M : List (Nat × Blk)} {n : Nat} {ρ : Nat → Nat} {p : Nat → Prop} {a : Act} {w : World}
theorem evO_spec {x : Option Operand} {o : Option (IntKind × Int)} (h : evO L x = some o) (hop : ∀ y ∈ x, OpOK ρ p L a y) : x.map a.eval = o.map fun q => Value.int q.1 q.2 := by
  cases x with
  | none => simp only [evO, Option.some.injEq] at h; subst h; rfl
  | some x =>
    simp only [evO] at h
    obtain ⟨v, h1, h2⟩ := Option.bind_eq_some_iff.1 h
    obtain ⟨a1, _, _⟩ := hop x (by simp) v h1
    cases v <;> simp only [reduceCtorEq, Option.some.injEq] at h2
    subst h2
    simp only [Option.map_some, a1]
    rfl
theorem run_bound {o : IntKind × Int} {y : Nat} {c : BoundsCode} (h : bndF (some o) y = true) (d : Nat) : (Instr.sliceBound (.int o.1 o.2) y c).run P w = .ok (bndN (some o) d) w := by
  have hh : 0 ≤ o.2 ∧ o.2 ≤ (y : Int) := by simpa [bndF] using h
  simp [Instr.sliceBound, asIntOf, hh, bndN]
theorem run_bounds {isS : Bool} {len cap : Nat} {lo hi mx : Option (IntKind × Int)} (hm : mx.isNone || hi.isSome) (h1 : bndF mx cap = true) (h2 : bndF hi (bndN mx cap) = true) (h3 : bndF lo (bndN hi len) = true) :
    (Instr.sliceBounds isS len cap (lo.map fun q => Value.int q.1 q.2) (hi.map fun q => Value.int q.1 q.2) (mx.map fun q => Value.int q.1 q.2)).run P w = .ok (bndN lo 0, bndN hi len, bndN mx cap) w := by
  unfold Instr.sliceBounds
  cases mx with
  | none =>
    cases hi with
    | none =>
      cases lo with
      | none => rfl
      | some l =>
        have e3 := run_bound (P := P) (w := w) (o := l) (y := len) (c := if (none : Option Value).isSome = true then BoundsCode.slice3C else .sliceB) h3 0
        simp only [Option.map_none, Option.map_some, Sem.run_bind, Sem.run_pure, Result.andThen_ok]
        rw [e3]; rfl
    | some q =>
      have e2 := run_bound (P := P) (w := w) (c := (if isS then BoundsCode.sliceAcap else .sliceAlen)) h2 len
      cases lo with
      | none => simp only [Option.map_none, Option.map_some, Sem.run_bind, Sem.run_pure, Result.andThen_ok, bndN] at e2 ⊢; rw [e2]; rfl
      | some l =>
        simp only [Option.map_none, Option.map_some, Sem.run_bind, Sem.run_pure, Result.andThen_ok]
        simp only [bndN] at e2 h3 ⊢
        rw [e2]
        simp only [Result.andThen_ok]
        have := run_bound (P := P) (w := w) (o := l) (y := q.2.toNat) (c := if (none : Option Value).isSome = true then BoundsCode.slice3C else .sliceB) h3 0
        simp only [bndN] at this
        rw [this]; rfl
  | some m =>
    cases hi with
    | none => simp at hm
    | some q =>
      have e1 := run_bound (P := P) (w := w) (c := (if isS then BoundsCode.slice3Acap else .slice3Alen)) h1 cap
      simp only [bndN] at h2
      have e2 := run_bound (P := P) (w := w) (c := BoundsCode.slice3B) h2 len
      simp only [bndN] at e1 e2
      cases lo with
      | none => simp only [Option.map_none, Option.map_some, Sem.run_bind, Sem.run_pure, bndN]; rw [e1]; simp only [Result.andThen_ok]; rw [e2]; rfl
      | some l =>
        simp only [bndN] at h3
        have e3 := run_bound (P := P) (w := w) (o := l) (y := q.2.toNat) (c := BoundsCode.slice3C) h3 0
        simp only [bndN] at e3
        simp only [Option.map_some, Sem.run_bind, Sem.run_pure, bndN]; rw [e1]; simp only [Result.andThen_ok]; rw [e2]; simp only [Result.andThen_ok, Option.isSome_some, if_true]; rw [e3]; rfl
theorem view_onto {q : Nat × Nat} {ad : Option Addr} {off len cap : Nat} (hl : len ≤ cap) (hn : ad = none → cap = 0) (hs : ∀ x, ad = some x → ∃ o, x = ⟨q.1, o, none⟩ ∧ (cap ≠ 0 → o = q.2 + off)) :
    ∃ g, .slice ad len cap = vwV q g off len := by
  cases ad with
  | none =>
    have hc := hn rfl
    subst hc
    have : len = 0 := by omega
    subst this
    exact ⟨0, by simp [vwV, roomOf]⟩
  | some x =>
    obtain ⟨o, rfl, ho⟩ := hs x rfl
    obtain ⟨g, g0, hg⟩ := room_onto (cap - len) o
    refine ⟨g, ?_⟩
    simp only [vwV, hg, g0, and_false, if_false]
    rw [show len + (cap - len) = cap by omega]
    by_cases hc : cap = 0
    · rw [if_pos hc]
    · rw [if_neg hc, ho hc]
theorem Sound.ghost {o : Oper} {r : Bool} {b off len : Nat} {rd : List Nat} {rv : Value} (hr : (execOp a.eval o).run P w = .ok (.value rv) w) (hg : ∃ g, rv = vwV (baseOf r (ρ b)) g off len) (hb : p b) (hrd : ∀ b ∈ rd, p b) (hpn : ∀ i, p i → ¬ (n ≤ i ∧ i < n + 1)) :
    Sound P ρ p M n a w o (.vw r b off len n) { rd := rd, nn := 1 } := by
  obtain ⟨g, hg⟩ := hg
  have hbn : b ≠ n := fun e => hpn b hb (by subst e; simp)
  refine ⟨⟨rfl, fun i hi => ?_, fun _ _ h => by simp [getA] at h, hrd⟩, fun i => if i = n then g else ρ i, rv, w, .inl hr, ?_, fun i hi => if_neg (fun e => hi (by subst e; simp)), MStep.none _ _ _ _ _⟩
  · simp only [VV.ids, List.mem_cons, List.not_mem_nil, or_false] at hi
    rcases hi with rfl | rfl
    · exact .inl hb
    · exact .inr ⟨Nat.le_refl _, by simp⟩
  · simp only [VV.den, VV.den0, VV.cells, List.headD_cons, if_true, if_neg hbn]
    exact hg
theorem run_cut {t e : TypeId} {i : TI} (hti : TyOK P t i) (hd : i.desc = .slice e) (hs : i.esz = 1) {ad : Option Addr} {len cap : Nat} {lo hi mx : Option (IntKind × Int)} (hm : mx.isNone || hi.isSome) (h1 : bndF mx cap = true) (h2 : bndF hi (bndN mx cap) = true) (h3 : bndF lo (bndN hi len) = true) :
    (Instr.sliceAt t (.slice ad len cap) (lo.map fun q => Value.int q.1 q.2) (hi.map fun q => Value.int q.1 q.2) (mx.map fun q => Value.int q.1 q.2)).run P w =
      .ok (.slice (if bndN mx cap = bndN lo 0 then ad else ad.map (·.add (bndN lo 0))) (bndN hi len - bndN lo 0) (bndN mx cap - bndN lo 0)) w := by
  have hdd := hti.desc
  have hes := hti.esz
  rw [hd] at hdd hes
  simp only at hes
  have hsz : (sizeOf e).run P w = .ok 1 w := by
    cases hq : P.info? e with
    | none => simp [hq] at hes
    | some q => simp [hq] at hes; simp [sizeOf, typeInfo, hq, hes, hs]
  have hb := run_bounds (P := P) (w := w) (isS := true) (len := len) hm h1 h2 h3
  simp only [Instr.sliceAt, Sem.run_bind, run_underlying hdd, Result.andThen_ok, Instr.slice, hb, hsz, Sem.run_pure, Nat.mul_one]
theorem bnd_le {o : Option (IntKind × Int)} {y d : Nat} (h : bndF o y = true) (hd : d ≤ y) : bndN o d ≤ y := by
  cases o with
  | none => exact hd
  | some q =>
    have : 0 ≤ q.2 ∧ q.2 ≤ (y : Int) := by simpa [bndF] using h
    simp only [bndN]; omega
theorem cutO_addr {lo : Option (IntKind × Int)} {g off m : Nat} : (if m = bndN lo 0 then (⟨g, off, none⟩ : Addr) else (⟨g, off, none⟩ : Addr).add (bndN lo 0)) = ⟨g, cutO lo off (bndN lo 0) m, none⟩ := by
  cases lo with
  | none => simp [bndN, cutO, addr_add]
  | some q =>
    simp only [cutO]
    by_cases h : m = bndN (some q) 0
    · rw [if_pos h]; simp [h]
    · rw [if_neg h, addr_add]
      have : Nat.beq m (bndN (some q) 0) = false := by rw [← Bool.not_eq_true, Nat.beq_eq]; exact h
      rw [this]; rfl
theorem add_zero_opt {x : Nat} {A : Option Addr} (hA : ∀ y, A = some y → ∃ g o, y = ⟨g, o, none⟩) : (if x = 0 then A else A.map fun y => y.add 0) = A := by
  split
  · rfl
  · cases A with
    | none => rfl
    | some y =>
      obtain ⟨g, o, rfl⟩ := hA y rfl
      simp [addr_add]
theorem if_addr {c : Prop} [Decidable c] {g off : Nat} : ∀ y, (if c then none else some (⟨g, off, none⟩ : Addr)) = some y → ∃ g o, y = ⟨g, o, none⟩ := by
  intro y h
  split at h
  · cases h
  · simp only [Option.some.injEq] at h; exact ⟨_, _, h.symm⟩
theorem cutS_sound {o : Oper} {t e : TypeId} {i : TI} (hti : TyOK P t i) (hd : i.desc = .slice e) (hs : i.esz = 1) {lo hi mx : Option (IntKind × Int)} {s v : VV} {me : ME} (h : cutS M n lo hi mx s = some (true, v, me))
    (hmm : ∀ b ∈ me.rd, MmOK ρ p M w b) (hsi : ∀ i ∈ s.ids, p i) (hpn : ∀ i, p i → ¬ (n ≤ i ∧ i < n + me.nn))
    (hr : ∀ rv, (Instr.sliceAt t (s.den ρ) (lo.map fun q => Value.int q.1 q.2) (hi.map fun q => Value.int q.1 q.2) (mx.map fun q => Value.int q.1 q.2)).run P w = .ok rv w → (execOp a.eval o).run P w = .ok (.value rv) w) : Sound P ρ p M n a w o v me := by

  have look : ∀ {r : Bool} {b off len cap : Nat} {ad : Option Addr} {rd : List Nat}, s.den ρ = .slice ad len cap → len ≤ cap → (ad = none → cap = 0) → (∀ x, ad = some x → ∃ o, x = ⟨(baseOf r (ρ b)).1, o, none⟩ ∧ (cap ≠ 0 → o = (baseOf r (ρ b)).2 + off)) →
      mx = none → bndF hi len = true → bndF lo (bndN hi len) = true → p b → (∀ b ∈ rd, p b) → (∀ i, p i → ¬ (n ≤ i ∧ i < n + 1)) →
      Sound P ρ p M n a w o (.vw r b (off + bndN lo 0) (bndN hi len - bndN lo 0) n) { rd := rd, nn := 1 } := by
    intro r b off len cap ad rd hden hlc hn hsm hmx f1 f2 hb hrd hpn'
    subst hmx
    have hh : bndN hi len ≤ len := bnd_le f1 (Nat.le_refl _)
    have hll : bndN lo 0 ≤ bndN hi len := bnd_le f2 (Nat.zero_le _)
    have f1' : bndF hi (bndN none cap) = true := by
      cases hi with
      | none => rfl
      | some q =>
        have f0 : 0 ≤ q.2 ∧ q.2 ≤ (len : Int) := by simpa [bndF] using f1
        show decide (0 ≤ q.2 ∧ q.2 ≤ (cap : Int)) = true
        exact decide_eq_true (by omega)
    have hrun := hr _ (by rw [hden]; exact run_cut hti hd hs (mx := none) rfl rfl f1' f2)
    refine Sound.ghost hrun (view_onto (by simp only [bndN] at *; omega) (fun hnn => ?_) fun x hx => ?_) hb hrd hpn'
    · have : ad = none := by
        split at hnn
        · exact hnn
        · simpa using hnn
      have := hn this
      simp only [bndN] at *; omega
    · split at hx
      · rename_i he
        obtain ⟨o1, h1, h2⟩ := hsm x hx
        exact ⟨o1, h1, fun hne => absurd (show bndN none cap - bndN lo 0 = 0 by omega) hne⟩
      · rename_i he
        cases ad with
        | none => simp at hx
        | some y =>
          simp only [Option.map_some, Option.some.injEq] at hx
          obtain ⟨o1, rfl, h2⟩ := hsm y rfl
          subst hx
          refine ⟨o1 + bndN lo 0, addr_add _ _ _, fun hne => ?_⟩
          rw [h2 (by simp only [bndN] at hne ⊢; omega)]; omega
  unfold cutS at h
  split at h
  · rename_i b off len cap
    cases hm : (mx.isNone || hi.isSome) with
    | false => simp [hm] at h
    | true =>
      simp only [hm, cond_true, Option.some.injEq, Prod.mk.injEq, Bool.and_eq_true] at h
      obtain ⟨⟨⟨f1, f2⟩, f3⟩, rfl, rfl⟩ := h
      have hrun := hr _ (run_cut hti hd hs hm f1 f2 f3)
      refine Sound.plain hrun ?_ rfl (by simpa [VV.ids] using hsi) (by simp)
      simp only [VV.den, VV.den0, VV.cells, List.headD_cons, Option.map_some]
      rw [← cutO_addr]
      split <;> rfl
  · rename_i b off len c
    have den : (VV.vec b off len c).den ρ = .slice (if ρ c = 0 then none else some ⟨ρ b, off, none⟩) len (ρ c - 1 - off) := rfl
    split at h
    · simp only [Option.some.injEq, Prod.mk.injEq, true_and] at h
      obtain ⟨rfl, rfl⟩ := h
      have hrun := hr _ (run_cut hti hd hs (lo := none) (hi := none) (mx := none) rfl rfl rfl rfl)
      refine Sound.plain hrun ?_ rfl hsi (by simp)
      rw [den]
      simp only [bndN, Nat.sub_zero]
      congr 1
      exact add_zero_opt if_addr
    · rename_i q
      obtain ⟨x, h1, h2⟩ := Option.bind_eq_some_iff.1 h
      cases hv : isVec c x.2.2 with
      | false => simp [hv] at h2
      | true =>
        simp only [hv, cond_true, Option.some.injEq, Prod.mk.injEq, Bool.and_eq_true, decide_eq_true_eq, Nat.ble_eq] at h2
        obtain ⟨⟨f1, f2⟩, rfl, rfl⟩ := h2
        obtain ⟨m1, _, _⟩ := hmm b (by simp) x h1
        obtain ⟨rs, te, kd⟩ := x
        have hk := isVec_eq hv
        simp only at hk f2
        subst hk
        have hw1 := m1.1
        simp only at hw1
        have hrun := hr _ (run_cut hti hd hs (lo := none) (hi := some q) (mx := none) rfl rfl (by show decide (0 ≤ q.2 ∧ q.2 ≤ ((ρ c - 1 - off : Nat) : Int)) = true; exact decide_eq_true (by omega)) rfl)
        refine Sound.plain hrun ?_ rfl (by simpa [VV.ids] using hsi) (by simpa using hsi b (by simp [VV.ids]))
        simp only [VV.den, VV.den0, VV.cells, List.headD_cons, bndN, Nat.sub_zero]
        congr 1
        exact add_zero_opt if_addr
    · obtain ⟨x, h1, h2⟩ := Option.bind_eq_some_iff.1 h
      cases hv : isVec c x.2.2 with
      | false => simp [hv] at h2
      | true =>
        simp only [hv, cond_true, Option.some.injEq, Prod.mk.injEq, Bool.and_eq_true, Nat.ble_eq] at h2
        obtain ⟨⟨⟨f1, f2⟩, f3⟩, rfl, rfl⟩ := h2
        obtain ⟨m1, _, _⟩ := hmm b (by simp) x h1
        obtain ⟨rs, te, kd⟩ := x
        have hk := isVec_eq hv
        simp only at hk f3
        subst hk
        have hw1 := m1.1
        simp only at hw1
        have hb : p b := hsi b (by simp [VV.ids])
        refine look (r := false) (ad := if ρ c = 0 then none else some ⟨ρ b, off, none⟩) den (by omega) (fun hnn => ?_) (fun y hy => ?_) rfl f1 f2 hb (by simpa using hb) hpn
        · split at hnn
          · rename_i h0; omega
          · cases hnn
        · split at hy
          · cases hy
          · simp only [Option.some.injEq] at hy
            exact ⟨off, hy.symm, fun _ => by simp [baseOf]⟩
    · cases h
  · rename_i r b off len g
    have den : (VV.vw r b off len g).den ρ = vwV (baseOf r (ρ b)) (ρ g) off len := rfl
    have hb : p b := hsi b (by simp [VV.ids])
    split at h
    · simp only [Option.some.injEq, Prod.mk.injEq, true_and] at h
      obtain ⟨rfl, rfl⟩ := h
      have hrun := hr _ (by rw [den]; exact run_cut hti hd hs (lo := none) (hi := none) (mx := none) rfl rfl rfl rfl)
      refine Sound.plain hrun ?_ rfl hsi (by simp)
      rw [den]
      simp only [bndN, Nat.sub_zero, vwV]
      congr 1
      exact add_zero_opt if_addr
    · simp only [Option.some.injEq, Prod.mk.injEq, Bool.and_eq_true] at h
      obtain ⟨⟨f1, f2⟩, rfl, rfl⟩ := h
      refine look (r := r) (b := b) (off := off) (len := len) (rd := []) (den.trans rfl) (Nat.le_add_right _ _) (fun hnn => ?_) (fun y hy => ?_) rfl f1 f2 hb (by simp) hpn
      · split at hnn
        · rename_i h0
          rw [h0.1, h0.2]; simp [roomOf]
        · cases hnn
      · split at hy
        · cases hy
        · simp only [Option.some.injEq] at hy
          exact ⟨_, hy.symm, fun hne => if_neg hne⟩
    · cases h
  · cases hm : mx.isNone with
    | false => simp [hm] at h
    | true =>
      have : mx = none := by simpa using hm
      subst this
      simp only [hm, cond_true, Option.some.injEq, Prod.mk.injEq, Bool.and_eq_true] at h
      obtain ⟨⟨f1, f2⟩, rfl, rfl⟩ := h
      have hh : bndN hi 0 ≤ 0 := bnd_le f1 (Nat.le_refl _)
      have hll : bndN lo 0 ≤ bndN hi 0 := bnd_le f2 (Nat.zero_le _)
      have hrun := hr _ (run_cut hti hd hs (mx := none) (cap := 0) (ad := none) (len := 0) rfl rfl f1 f2)
      refine Sound.plain hrun ?_ rfl (by simp [VV.ids]) (by simp)
      rw [show bndN hi 0 = 0 by omega, show bndN lo 0 = 0 by omega]
      rfl
  · cases h
end
end Go.VM

namespace Go.VM
def isU8 : TypeDesc → Bool
  | .int .u8 => true
  | _ => false
def strEq (a b : ByteArray) : Bool := a.toList == b.toList
def strLt (a b : ByteArray) : Bool := Op.bytesLess a.toList b.toList
def strOp (op : BinOp) (a b : ByteArray) : Option (Bool × VV) := match op with
  | .add => some (fitB (a.size + b.size), .str (a ++ b))
  | .eql => some (true, .bool (strEq a b))
  | .neq => some (true, .bool (!(strEq a b)))
  | .lss => some (true, .bool (strLt a b))
  | .leq => some (true, .bool (strLt a b || strEq a b))
  | .gtr => some (true, .bool (!(strLt a b || strEq a b)))
  | .geq => some (true, .bool (!(strLt a b)))
  | _ => none
def copyR (b : Nat) (x : Blk) (off dlen : Nat) (q : Bool × List VV × Nat × List Nat) : Option (Bool × VV × ME) := match x.1, q.2.1 with
  | [.ints k N l], [.ints k' m l'] => if k = k' then some (q.1 && Nat.ble (off + dlen) N && Nat.beq m q.2.2.1, .int .i64 ((Nat.min m dlen : Nat) : Int), { rd := b :: q.2.2.2, up := [(b, ([.ints k N (spl l off (Nat.min m dlen) l')], x.2))] }) else none
  | _, _ => none
def copyS (M : List (Nat × Blk)) (q : Bool × List VV × Nat × List Nat) : VV → Option (Bool × VV × ME)
  | .sl b off dlen _ => (getA M b).bind fun x => bif isRo x.2.2 then none else copyR b x off dlen q
  | .vec b off dlen c => (getA M b).bind fun x => bif isVec c x.2.2 then copyR b x off dlen q else none
  | _ => none
def lenOK (l c : Int) (bytes : Nat) : Bool := decide (0 ≤ l ∧ l ≤ c) && fitB (c.toNat * bytes) && fitB c.toNat
section
variable {P : Program} {ty : TypeId → Option TI} {L : List (Nat × VV)} {M : List (Nat × Blk)} {n : Nat} {ρ : Nat → Nat} {p : Nat → Prop} {a : Act} {w : World}
theorem run_strOp {op : BinOp} {x y : ByteArray} {v : VV} (h : strOp op x y = some (true, v)) : (Op.stringOp op x y).run P w = .ok (v.den ρ) w ∧ v.mem = true ∧ v.ids = [] := by
  unfold strOp at h
  split at h <;> simp only [Option.some.injEq, Prod.mk.injEq, true_and, reduceCtorEq] at h
  · obtain ⟨h1, rfl⟩ := h
    simp only [fitB, Nat.ble_eq] at h1
    exact ⟨run_string_add_sum _ x y (by omega), rfl, rfl⟩
  all_goals
    subst h
    exact ⟨by simp only [Op.stringOp, Sem.run_pure]; rfl, rfl, rfl⟩
theorem Sound.same {o : Oper} {b : Nat} {rs rs' : List VV} {t : TypeId} {kd : Kd} {rd : List Nat} {v : VV} (hb : getA M b = some (rs, t, kd)) (hmm : MmOK ρ p M w b) (hro : isRo kd = false) (hdd : rowK kd = true) (hbr : b ∈ rd) (hl : VV.ws rs' = VV.ws rs) (hw : VV.ws rs = 0)
    (hr : (execOp a.eval o).run P w = .ok (.value (v.den ρ)) w) (hok : v.okL) (hvi : ∀ i ∈ v.ids, p i) (hm : VV.mems rs' = true) (hids : ∀ i ∈ VV.idss rs', p i) (hpb : ∀ c ∈ rd, p c) :
    Sound P ρ p M n a w o v { rd := rd, up := [(b, (rs', t, kd))] } := by
  obtain ⟨h1, h2, h3⟩ := hmm _ hb
  have e0 : VV.cellss ρ rs = [] := List.length_eq_zero_iff.1 (by rw [cellss_length, hw])
  have e1 : VV.cellss ρ rs' = [] := List.length_eq_zero_iff.1 (by rw [cellss_length, hl, hw])
  have hholds : Holds ρ w b (rs', t, kd) := by
    cases kd with
    | norm => simp only [Holds] at h1 ⊢; rw [e1, ← e0]; exact h1
    | vec c => simp only [Holds] at h1 ⊢; rw [hl, e1, ← e0]; exact h1
    | ro => simp [isRo] at hro
    | dead => simp [rowK] at hdd
    | it s q => simp [rowK] at hdd
  have hbi : ∀ i ∈ bids (rs', t, kd), p i := by
    intro i hi
    simp only [bids, List.mem_append] at hi
    rcases hi with hi | hi
    · exact hids i hi
    · exact h3 i (by simp only [bids, List.mem_append]; exact .inr hi)
  have hocc : ∀ k, occ ρ b (rs', t, kd) k ↔ occ ρ b (rs, t, kd) k := fun k => by cases kd <;> first | exact Iff.rfl | (simp [isRo] at hro)
  have hown : ∀ k, own ρ b (rs', t, kd) k ↔ own ρ b (rs, t, kd) k := fun k => by cases kd <;> exact Iff.rfl
  refine ⟨⟨hok, fun i hi => .inl (hvi i hi), fun c x h => ?_, hpb⟩, ρ, v.den ρ, w, .inl hr, rfl, fun _ _ => rfl, ⟨rfl, rfl, rfl, Nat.le_refl _, fun c x h => ?_, fun c x h k hk => ?_, fun c d hcd x y hx hy => ?_, fun k _ _ _ => rfl, fun ad _ => rfl⟩⟩
  · obtain ⟨rfl, rfl⟩ := getA_one h
    exact ⟨.inl hbr, hm, fun i hi => .inl (hbi i hi)⟩
  · obtain ⟨rfl, rfl⟩ := getA_one h
    exact hholds
  · obtain ⟨rfl, rfl⟩ := getA_one h
    exact .inr ⟨c, hbr, _, hb, (hocc k).1 hk, fun ho => (hown k).1 ho, fun _ => by simp [getA]⟩
  · obtain ⟨rfl, _⟩ := getA_one hx
    obtain ⟨rfl, _⟩ := getA_one hy
    exact absurd rfl hcd
theorem run_copy {t t2 ty e : TypeId} {it : TypeInfo} (ht : P.underlying t = some (.slice e)) (hi : P.info? e = some it) (hs : it.size = 1) {xv : Value} {cs : List Value} (hx : Shows P w xv cs) {ad : Option Addr} {dlen cap : Nat} {w' : World}
    (hst : ∀ x, ad = some x → (storeCells x (cs.take (Nat.min cs.length dlen)) 0).run P w = .ok () w') (hn : ad = none → w' = w) :
    (Builtin.copy_ #[t, t2] ty #[.slice ad dlen cap, xv]).run P w = .ok (.int .i64 ((Nat.min cs.length dlen : Nat) : Int)) w' := by
  have hf := hx.2 w rfl (Nat.min cs.length dlen) (Nat.min_le_left _ _)
  cases ad with
  | none =>
    have := hn rfl
    subst this
    simp only [Builtin.copy_, List.getElem?_toArray, List.getElem?_cons_zero, List.getElem?_cons_succ, Sem.run_bind, run_underlying ht, Result.andThen_ok, hx.1, sizeOf, typeInfo, Sem.run_pure]
    simp [hi, hs, hf, goInt]
  | some x =>
    have := hst x rfl
    simp only [Builtin.copy_, List.getElem?_toArray, List.getElem?_cons_zero, List.getElem?_cons_succ, Sem.run_bind, run_underlying ht, Result.andThen_ok, hx.1, sizeOf, typeInfo, Sem.run_pure]
    simp [hi, hs, hf, this, goInt]
theorem copyR_sound {o : Oper} {t t2 e : TypeId} {ie : TI} (hte : TyOK P e ie) (hts : P.underlying t = some (.slice e)) (hsz : ie.size = 1) {b off dlen cap : Nat} {x : Blk} {ad : Option Addr} {xv : Value} {q : Bool × List VV × Nat × List Nat} {v : VV} {me : ME}
    (h : copyR b x off dlen q = some (true, v, me)) (hb : getA M b = some x) (hro : isRo x.2.2 = false) (hmm : ∀ b ∈ me.rd, MmOK ρ p M w b) (hpb : p b)
    (had : (0 < VV.ws x.1 → ad = some ⟨ρ b, off, none⟩) ∧ ∀ y, ad = some y → y = ⟨ρ b, off, none⟩)
    (hq : q.1 = true → Shows P w xv (VV.cellss ρ q.2.1) ∧ VV.ws q.2.1 = q.2.2.1 ∧ VV.mems q.2.1 = true ∧ (∀ i ∈ VV.idss q.2.1, p i) ∧ (∀ b ∈ q.2.2.2, p b))
    (hr : ∀ rv w', (Builtin.copy_ #[t, t2] o.type #[.slice ad dlen cap, xv]).run P w = .ok rv w' → (execOp a.eval o).run P w = .ok (.value rv) w') : Sound P ρ p M n a w o v me := by
  have hinf := hte.info
  cases hie : P.info? e with
  | none => simp [hie] at hinf
  | some it =>
  simp [hie] at hinf
  obtain ⟨hs1, _⟩ := hinf
  have hs : it.size = 1 := by rw [hs1, hsz]
  obtain ⟨rs, te, kd⟩ := x
  unfold copyR at h
  split at h
  · rename_i k N l k' m l' hx1 hq1
    simp only at hx1
    subst hx1
    split at h
    · rename_i hk
      subst hk
      simp only [Option.some.injEq, Prod.mk.injEq, Bool.and_eq_true, Nat.ble_eq, Nat.beq_eq] at h
      obtain ⟨⟨⟨f1, f2⟩, f3⟩, rfl, rfl⟩ := h
      obtain ⟨q1, q2, q3, q4, q5⟩ := hq f1
      rw [hq1] at q1
      have hl : (VV.cellss ρ [.ints k m l']).length = m := by rw [cellss_length]; simp [VV.ws, VV.w]
      have hm := hmm b (by simp)
      have hrd : ∀ d ∈ b :: q.2.2.2, p d := fun d hd => (List.mem_cons.1 hd).elim (fun e => by subst e; exact hpb) (q5 d)
      have hmin : Nat.min m dlen ≤ dlen := Nat.min_le_right _ _
      have hmin2 : Nat.min m dlen ≤ m := Nat.min_le_left _ _
      have hcut : (VV.cellss ρ [.ints k m l']).take (Nat.min m dlen) = VV.cellss ρ [.ints k (Nat.min m dlen) l'] := by
        simp only [VV.cellss, VV.cells, List.append_nil]
        refine List.ext_getElem? fun i => ?_
        rw [List.getElem?_take]
        by_cases hi : i < Nat.min m dlen
        · rw [if_pos hi]
          simp only [List.getElem?_map, List.getElem?_range hi, List.getElem?_range (show i < m by omega)]
        · rw [if_neg hi, List.getElem?_eq_none (by simp; omega)]
      by_cases h0 : N = 0
      · subst h0
        have hd0 : dlen = 0 := by omega
        subst hd0
        have hz : Nat.min m 0 = 0 := Nat.min_eq_right (Nat.zero_le _)
        have hnd : rowK kd = true := by
          have h9 := (hm _ hb).1
          cases kd with
          | norm => rfl
          | vec c => rfl
          | ro => simp [isRo] at hro
          | dead => simp [Holds] at h9
          | it s q => simp [Holds] at h9
        refine Sound.same hb hm hro hnd (by simp) (by simp [VV.ws, VV.w]) (by simp [VV.ws, VV.w]) (hr _ _ ?_) rfl (by simp [VV.ids]) rfl (by simp [VV.idss, VV.ids]) hrd
        have := run_copy (w := w) (ty := o.type) (t2 := t2) hts hie hs q1 (ad := ad) (dlen := 0) (cap := cap) (w' := w) (fun x _ => by
          rw [hl, hz, List.take_zero]; rfl) (fun _ => rfl)
        rw [hl] at this
        exact this
      · refine Sound.write hb hm hro (by simp) (by simp only [VV.ws, VV.w]; omega) (by simp [VV.ws, VV.w]) (fun tail fz hh hz => ?_) (.inl rfl) rfl (by simp [VV.ids]) rfl (by simp [VV.idss, VV.ids]) hrd
        have hN : VV.ws [VV.ints k N l] = N := by simp [VV.ws, VV.w]
        have hcl : (VV.cellss ρ [VV.ints k N l]).length = N := by rw [cellss_length, hN]
        have hcl2 : (VV.cellss ρ [VV.ints k (Nat.min m dlen) l']).length = Nat.min m dlen := by rw [cellss_length]; simp [VV.ws, VV.w]
        have hst := run_storeCells (P := P) (ρ b) te fz (VV.cellss ρ [.ints k (Nat.min m dlen) l']) off 0 (VV.cellss ρ [.ints k N l] ++ tail) w hh (by rw [List.length_append, hcl, hcl2]; omega)
          (fun j hj => hz j (by rw [hcl2] at hj; rw [hN]; omega)) (mems_cells _ rfl)
        have hsp : splL (VV.cellss ρ [.ints k N l] ++ tail) (off + 0) (VV.cellss ρ [.ints k (Nat.min m dlen) l']) = VV.cellss ρ [.ints k N (spl l off (Nat.min m dlen) l')] ++ tail := by
          rw [Nat.add_zero, splL_append (by rw [hcl, hcl2]; omega)]
          congr 1
          have := cells_spl (ρ := ρ) k N l off (Nat.min m dlen) l' (by omega)
          simp only [VV.cellss, List.append_nil]
          exact this.symm
        rw [hsp] at hst
        refine hr _ _ ?_
        have := run_copy (w := w) (ty := o.type) (t2 := t2) hts hie hs q1 (ad := ad) (dlen := dlen) (cap := cap) (fun x hx => by
          rw [had.2 x hx, hl, hcut]; exact hst) (fun hn => by
          rw [had.1 (by simp only [VV.ws, VV.w]; omega)] at hn; cases hn)
        rw [hl] at this
        exact this
    · cases h
  · cases h
theorem copyS_sound {o : Oper} {t t2 e : TypeId} {ie : TI} (hte : TyOK P e ie) (hts : P.underlying t = some (.slice e)) (hsz : ie.size = 1) {s : VV} {xv : Value} {q : Bool × List VV × Nat × List Nat} {v : VV} {me : ME}
    (h : copyS M q s = some (true, v, me)) (hmm : ∀ b ∈ me.rd, MmOK ρ p M w b) (hsi : ∀ i ∈ s.ids, p i)
    (hq : q.1 = true → Shows P w xv (VV.cellss ρ q.2.1) ∧ VV.ws q.2.1 = q.2.2.1 ∧ VV.mems q.2.1 = true ∧ (∀ i ∈ VV.idss q.2.1, p i) ∧ (∀ b ∈ q.2.2.2, p b))
    (hr : ∀ rv w', (Builtin.copy_ #[t, t2] o.type #[s.den ρ, xv]).run P w = .ok rv w' → (execOp a.eval o).run P w = .ok (.value rv) w') : Sound P ρ p M n a w o v me := by
  unfold copyS at h
  split at h
  · rename_i b off dlen cap
    obtain ⟨x, h1, h2⟩ := Option.bind_eq_some_iff.1 h
    obtain ⟨hro, h3⟩ := ro_no h2
    exact copyR_sound hte hts hsz h3 h1 hro hmm (hsi b (by simp [VV.ids])) ⟨fun _ => rfl, fun y hy => by simpa using hy.symm⟩ hq hr
  · rename_i b off dlen c
    obtain ⟨x, h1, h2⟩ := Option.bind_eq_some_iff.1 h
    cases hv : isVec c x.2.2 with
    | false => simp [hv] at h2
    | true =>
      simp only [hv, cond_true] at h2
      have hk := isVec_eq hv
      have hbm : b ∈ me.rd := by
        unfold copyR at h2
        split at h2
        · split at h2
          · simp only [Option.some.injEq, Prod.mk.injEq] at h2
            rw [← h2.2.2]; simp
          · cases h2
        · cases h2
      obtain ⟨m1, _, _⟩ := hmm b hbm x h1
      refine copyR_sound (cap := ρ c - 1 - off) (ad := if ρ c = 0 then none else some ⟨ρ b, off, none⟩) hte hts hsz h2 h1 (by rw [hk]; rfl) hmm (hsi b (by simp [VV.ids])) ⟨fun hw => ?_, fun y hy => ?_⟩ hq hr
      · obtain ⟨rs, te, kd⟩ := x
        simp only at hk hw
        subst hk
        have := m1.1
        simp only at this
        rw [if_neg (by omega)]
      · split at hy
        · cases hy
        · simpa using hy.symm
  · cases h
end
end Go.VM

namespace Go.VM
def repR (zero : List VV) (len : Nat) : List VV := match zero with
  | [.ints k m _] => [.ints k (m * len) []]
  | [.int k _] => [.ints k len []]
  | z => (List.replicate len z).flatten
def strOf (q : Bool × List VV × Nat × List Nat) : Option (Bool × ByteArray × List Nat) := match q.2.1 with
  | [.ints .u8 m l] => some (q.1, mkStr (padT l m), q.2.2.2)
  | [] => some (q.1, mkStr [], q.2.2.2)
  | _ => none
def isStr : VV → Bool
  | .str _ => true
  | _ => false
def xopC (ty : TypeId → Option TI) (L : List (Nat × VV)) (M : List (Nat × Blk)) (n : Nat) : Op → Option (Bool × VV × ME)
  | .indexAddr t x y => (ev L x).bind fun v => (ev L y).bind fun u => (ty t).bind fun i => match i.desc, v, u with
    | .slice _, .vw r b off len _, .int _ j => bif Nat.beq i.esz 1 then some (decide (0 ≤ j ∧ j < (len : Int)), bif r then .vp b (off + j.toNat) else .ptr b (off + j.toNat), {}) else none
    | _, _, _ => none
  | .slice t x lo hi mx => (ev L x).bind fun v => (ty t).bind fun i => (evO L lo).bind fun lo => (evO L hi).bind fun hi => (evO L mx).bind fun mx => match i.desc with
    | .slice _ => bif Nat.beq i.esz 1 then cutS M n lo hi mx v else none
    | .array N _ => bif Nat.beq i.esz 1 then cutA lo hi mx N v else none
    | .string => match v with
      | .str s => bif mx.isNone then some (bndF hi s.size && bndF lo (bndN hi s.size), .str (s.extract (bndN lo 0) (bndN hi s.size)), {}) else none
      | _ => none
    | _ => none
  | .makeSlice t l c => (ev L l).bind fun v => (ev L c).bind fun u => (ty t).bind fun i => match i.desc, v, u with
    | .slice e, .int _ l, .int _ c => (ty e).bind fun ie => bif Nat.ble 1 ie.bytes then some (lenOK l c ie.bytes, .sl n 0 l.toNat c.toNat, { up := [(n, (repR ie.zero c.toNat, e, .norm))], nn := 1 }) else none
    | _, _, _ => none
  | .binOp op _ x y _ => (ev L x).bind fun v => (ev L y).bind fun u => match v, u with
    | .str a, .str b => (strOp op a b).map fun r => (r.1, r.2, {})
    | _, _ => none
  | .convert s d x => (ev L x).bind fun v => (ty s).bind fun is => (ty d).bind fun i => match is.desc, i.desc with
    | .string, .slice e => (ty e).bind fun ie => bif isU8 ie.desc then (match v with
      | .str a => some (true, .vec n 0 a.size (n + 1), { up := [(n, ([.ints .u8 a.size (strL a)], e, .vec (n + 1)))], nn := 2 })
      | _ => none) else none
    | .slice e, .string => (ty e).bind fun ie => bif isU8 ie.desc && !(isStr v) then (srcS M v).bind fun q => (strOf q).map fun r => (r.1, .str r.2.1, { rd := r.2.2 }) else none
    | _, _ => none
  | .call { callee := .builtin .append, args := args, argTypes := ats } => (evs L args.toList).bind fun vs => match vs, ats.toList with
    | [s, x], [t, t2] => (ty t).bind fun i => (ty t2).bind fun i2 => match i.desc with
      | .slice e => (ty e).bind fun ie => bif Nat.beq ie.size 1 && Nat.ble 1 ie.bytes && notInt i2.desc then (srcS M x).bind fun q => appS M n e ie.bytes q s else none
      | _ => none
    | _, _ => none
  | .call { callee := .builtin .copy, args := args, argTypes := ats } => (evs L args.toList).bind fun vs => match vs, ats.toList with
    | [s, x], [t, _] => (ty t).bind fun i => match i.desc with
      | .slice e => (ty e).bind fun ie => bif Nat.beq ie.size 1 then (srcS M x).bind fun q => copyS M q s else none
      | _ => none
    | _, _ => none
  | .call { callee := .builtin .cap, args := args, argTypes := ats } => (evs L args.toList).bind fun vs => match vs, ats.toList with
    | [.sl _ _ _ cap], [t] => (ty t).bind fun i => match i.desc with
      | .slice _ => some (true, .int .i64 (cap : Int), {})
      | _ => none
    | _, _ => none
  | _ => none
section
variable {P : Program} {ty : TypeId → Option TI} {L : List (Nat × VV)} {M : List (Nat × Blk)} {n : Nat} {ρ : Nat → Nat} {p : Nat → Prop} {a : Act} {w : World}
theorem appS_rd {e bytes : Nat} {q : Bool × List VV × Nat × List Nat} {s v : VV} {f : Bool} {me : ME} (h : appS M n e bytes q s = some (f, v, me)) : ∀ b ∈ q.2.2.2, b ∈ me.rd := by
  unfold appS at h
  split at h
  · simp only [Option.some.injEq, Prod.mk.injEq] at h
    rw [← h.2.2]; exact fun _ h => h
  · obtain ⟨x, h1, h2⟩ := Option.bind_eq_some_iff.1 h
    rename_i b off len c
    cases hb : (isVec c x.2.2 && Nat.beq off 0 && Nat.beq x.2.1 e) with
    | false => simp [hb] at h2
    | true =>
      simp only [hb, cond_true] at h2
      obtain ⟨r, _, h4⟩ := Option.map_eq_some_iff.1 h2
      simp only [Prod.mk.injEq] at h4
      rw [← h4.2.2]; intro d hd; simp [hd]
  · cases h
theorem copyS_rd {q : Bool × List VV × Nat × List Nat} {s v : VV} {f : Bool} {me : ME} (h : copyS M q s = some (f, v, me)) : ∀ b ∈ q.2.2.2, b ∈ me.rd := by
  have key : ∀ {b : Nat} {x : Blk} {off dlen : Nat}, copyR b x off dlen q = some (f, v, me) → ∀ b ∈ q.2.2.2, b ∈ me.rd := by
    intro b x off dlen h
    unfold copyR at h
    split at h
    · split at h
      · simp only [Option.some.injEq, Prod.mk.injEq] at h
        rw [← h.2.2]; intro d hd; simp [hd]
      · cases h
    · cases h
  unfold copyS at h
  split at h
  · obtain ⟨x, h1, h2⟩ := Option.bind_eq_some_iff.1 h
    exact key (ro_no h2).2
  · obtain ⟨x, h1, h2⟩ := Option.bind_eq_some_iff.1 h
    rename_i b off dlen c
    cases hb : isVec c x.2.2 with
    | false => simp [hb] at h2
    | true => simp only [hb, cond_true] at h2; exact key h2
  · cases h
theorem shown {x : VV} {q : Bool × List VV × Nat × List Nat} (h : srcS M x = some q) (hmm : ∀ b ∈ q.2.2.2, MmOK ρ p M w b) (hxi : ∀ i ∈ x.ids, p i) (h1 : q.1 = true) :
    Shows P w (x.den ρ) (VV.cellss ρ q.2.1) ∧ VV.ws q.2.1 = q.2.2.1 ∧ VV.mems q.2.1 = true ∧ (∀ i ∈ VV.idss q.2.1, p i) ∧ (∀ b ∈ q.2.2.2, p b) := by
  obtain ⟨f, rs, m, rd⟩ := q
  simp only at h1
  subst h1
  exact srcS_spec h hmm hxi
theorem push_all (ns : List Int) (s : ByteArray) : ns.foldl (fun r n => r.push (UInt8.ofNat n.toNat)) s = ⟨s.data ++ (ns.map fun x => UInt8.ofNat x.toNat).toArray⟩ := by
  induction ns generalizing s with
  | nil => simp
  | cons n ns ih =>
    rw [List.foldl_cons, ih]
    congr 1
    apply Array.ext'
    simp [ByteArray.push]
theorem mkStr_fold (ns : List Int) : ns.foldl (fun r n => r.push (UInt8.ofNat n.toNat)) ByteArray.empty = mkStr ns := by
  rw [push_all]
  simp only [mkStr]
  congr 1
  apply Array.ext'
  simp [ByteArray.empty, ByteArray.emptyWithCapacity]
  rfl
theorem isU8_eq {d : TypeDesc} (h : isU8 d = true) : d = .int .u8 := by
  unfold isU8 at h
  split at h
  · rfl
  · cases h
theorem cutA_sound {o : Oper} {t e : TypeId} {i : TI} {N : Nat} (hti : TyOK P t i) (hd : i.desc = .array N e) (hs : i.esz = 1) {lo hi mx : Option (IntKind × Int)} {s v : VV} {me : ME} (h : cutA lo hi mx N s = some (true, v, me)) (hsi : ∀ i ∈ s.ids, p i)
    (hr : ∀ rv, (Instr.sliceAt t (s.den ρ) (lo.map fun q => Value.int q.1 q.2) (hi.map fun q => Value.int q.1 q.2) (mx.map fun q => Value.int q.1 q.2)).run P w = .ok rv w → (execOp a.eval o).run P w = .ok (.value rv) w) : Sound P ρ p M n a w o v me := by
  have hdd := hti.desc
  have hes := hti.esz
  rw [hd] at hdd hes
  simp only at hes
  have hsz : (sizeOf e).run P w = .ok 1 w := by
    cases hq : P.info? e with
    | none => simp [hq] at hes
    | some q => simp [hq] at hes; simp [sizeOf, typeInfo, hq, hes, hs]
  have run : ∀ (g off : Nat), (mx.isNone || hi.isSome) = true → bndF mx N = true → bndF hi (bndN mx N) = true → bndF lo (bndN hi N) = true →
      (Instr.sliceAt t (.pointer (some ⟨g, off, none⟩)) (lo.map fun q => Value.int q.1 q.2) (hi.map fun q => Value.int q.1 q.2) (mx.map fun q => Value.int q.1 q.2)).run P w =
      .ok (.slice (some ⟨g, cutO lo off (bndN lo 0) (bndN mx N), none⟩) (bndN hi N - bndN lo 0) (bndN mx N - bndN lo 0)) w := by
    intro g off hm f1 f2 f3
    have hb := run_bounds (P := P) (w := w) (isS := false) (len := N) hm f1 f2 f3
    simp only [Instr.sliceAt, Sem.run_bind, run_underlying hdd, Result.andThen_ok, Instr.sureAddr, hb, hsz, Sem.run_pure, Nat.mul_one]
    rw [cutO_addr]
  unfold cutA at h
  split at h
  · rename_i b off
    cases hm : (mx.isNone || hi.isSome) with
    | false => simp [hm] at h
    | true =>
      simp only [hm, cond_true, Option.some.injEq, Prod.mk.injEq, Bool.and_eq_true] at h
      obtain ⟨⟨⟨f1, f2⟩, f3⟩, rfl, rfl⟩ := h
      exact Sound.plain (hr _ (run _ _ hm f1 f2 f3)) rfl rfl (by simpa [VV.ids] using hsi) (by simp)
  · rename_i b off m j es
    cases hm : (mx.isNone || hi.isSome) with
    | false => simp [hm] at h
    | true =>
      simp only [hm, cond_true, Option.some.injEq, Prod.mk.injEq, Bool.and_eq_true] at h
      obtain ⟨⟨⟨f1, f2⟩, f3⟩, rfl, rfl⟩ := h
      exact Sound.plain (hr _ (run _ _ hm f1 f2 f3)) rfl rfl (by simpa [VV.ids] using hsi) (by simp)
  · cases h
end
end Go.VM

namespace Go.VM
def maxE (x y : Int) : Int := bif decide (y > x) then y else x
def minE (x y : Int) : Int := bif decide (y < x) then y else x
def lenV : VV → Option Nat
  | .sl _ _ len _ => some len
  | .vec _ _ len _ => some len
  | .vw _ _ _ len _ => some len
  | .str s => some s.size
  | .raw (.slice none 0 0) => some 0
  | _ => none
def xopB (ty : TypeId → Option TI) (L : List (Nat × VV)) (_M : List (Nat × Blk)) (n : Nat) : Op → Option (Bool × VV × ME)
  | .nilCheck x => (ev L x).bind fun v => match v with
    | .fn .. | .fm .. => some (true, v, {})
    | _ => none
  | .makeFunc (.func f) first caps => bif caps.isEmpty then (evs L first.toList).bind fun vs => bif VV.mems vs then some (true, .fm f vs, {}) else none else none
  | .call { callee := .builtin .max, args := args, argTypes := _ } => (evs L args.toList).bind fun vs => match vs with
    | [.int k x, .int k' y] => if k = k' then some (true, .int k (maxE x y), {}) else none
    | _ => none
  | .call { callee := .builtin .min, args := args, argTypes := _ } => (evs L args.toList).bind fun vs => match vs with
    | [.int k x, .int k' y] => if k = k' then some (true, .int k (minE x y), {}) else none
    | _ => none
  | .call { callee := .builtin .len, args := args, argTypes := ats } => (evs L args.toList).bind fun vs => match vs, ats.toList with
    | [v], [t] => (ty t).bind fun i => match i.desc with
      | .array m _ => some (true, .int .i64 m, {})
      | .slice _ => bif isStr v then none else (lenV v).map fun (m : Nat) => (true, .int .i64 (m : Int), {})
      | .string => bif isStr v then (lenV v).map fun (m : Nat) => (true, .int .i64 (m : Int), {}) else none
      | _ => none
    | _, _ => none
  | .buildSlice t len parts => (ty t).bind fun i => match i.desc with
    | .slice e => (ty e).bind fun ie => (evParts L parts.toList).bind fun ps =>
        (fillR (fun j => some (j * ie.size, ie.size)) (repR ie.zero len) ps).bind fun runs => bif Nat.ble (len * ie.size) 16777216 then some (true, .sl n 0 len len, { up := [(n, (runs, e, .norm))], nn := 1 }) else none
    | _ => none
  | _ => none
section
variable {P : Program} {ty : TypeId → Option TI} {L : List (Nat × VV)} {M : List (Nat × Blk)} {n : Nat} {ρ : Nat → Nat} {p : Nat → Prop} {a : Act} {w : World}
theorem repR_mem {zero : List VV} {len : Nat} (h : VV.mems zero = true) : VV.mems (repR zero len) = true := by
  unfold repR
  split
  · rfl
  · rfl
  · rw [mems_iff]
    intro v hv
    obtain ⟨l, hl, hv⟩ := List.mem_flatten.1 hv
    rw [List.eq_of_mem_replicate hl] at hv
    exact mems_iff.1 h v hv
theorem repR_ids {zero : List VV} {len : Nat} (h : VV.idss zero = []) : VV.idss (repR zero len) = [] := by
  unfold repR
  split
  · rfl
  · rfl
  · refine List.eq_nil_iff_forall_not_mem.2 fun i hi => ?_
    obtain ⟨v, hv, hi⟩ := mem_idss.1 hi
    obtain ⟨l, hl, hv⟩ := List.mem_flatten.1 hv
    rw [List.eq_of_mem_replicate hl] at hv
    have : i ∈ VV.idss zero := mem_idss.2 ⟨v, hv, hi⟩
    rw [h] at this; cases this
theorem cellss_flatten (ρ : Nat → Nat) (ls : List (List VV)) : VV.cellss ρ ls.flatten = (ls.map (VV.cellss ρ)).flatten := by
  induction ls with
  | nil => rfl
  | cons l ls ih => simp only [List.flatten_cons, cellss_append, List.map_cons, ih]
theorem flatten_rep {α : Type} [Inhabited α] (z : List α) (len : Nat) : (List.range (len * z.length)).map (fun i => z.toArray[i % z.toArray.size]!) = (List.replicate len z).flatten := by
  induction len with
  | zero => simp
  | succ len ih =>
    by_cases h0 : z.length = 0
    · have : z = [] := List.length_eq_zero_iff.1 h0
      subst this
      simp
    · rw [List.replicate_succ', List.flatten_append, ← ih, Nat.succ_mul, List.range_add, List.map_append]
      congr 1
      simp only [List.flatten_cons, List.flatten_nil, List.append_nil, List.map_map]
      refine List.ext_getElem (by simp) fun i h1 h2 => ?_
      have h3 : i < z.length := by simpa using h1
      simp only [List.getElem_map, List.getElem_range, Function.comp, List.size_toArray]
      rw [Nat.mul_comm, Nat.mul_add_mod, Nat.mod_eq_of_lt h3]
      simp [h3]
theorem repR_cells {zero : List VV} {len : Nat} (hz : zeroInts zero = true) : VV.cellss ρ (repR zero len) = (List.replicate len (VV.cellss ρ zero)).flatten := by
  unfold repR
  split
  · rename_i k m l
    simp only [zeroInts, List.all_eq_true, beq_iff_eq] at hz
    have e1 : VV.cellss ρ [VV.ints k m l] = List.replicate m (.int k 0) := by
      simp only [VV.cellss, VV.cells, List.append_nil]
      refine List.ext_getElem (by simp) fun i h1 h2 => ?_
      simp only [List.getElem_map, List.getElem_range, List.getElem_replicate]
      congr 1
      simp only [List.getD_eq_getElem?_getD]
      cases hq : l[i]? with
      | none => rfl
      | some x => exact hz x (List.mem_of_getElem? hq)
    rw [e1]
    simp only [VV.cellss, VV.cells, List.append_nil]
    rw [List.flatten_replicate_replicate]
    refine List.ext_getElem (by simp [Nat.mul_comm]) fun i h1 h2 => ?_
    simp
  · rename_i k x
    simp only [zeroInts, beq_iff_eq] at hz
    subst hz
    simp only [VV.cellss, VV.cells, List.append_nil]
    refine List.ext_getElem (by simp) fun i h1 h2 => ?_
    simp
  · rw [cellss_flatten, List.map_replicate]
theorem run_maxmin (k : IntKind) (x y : Int) : (Builtin.max2 (.int k x) (.int k y)).run P w = .ok (.int k (maxE x y)) w ∧ (Builtin.min2 (.int k x) (.int k y)).run P w = .ok (.int k (minE x y)) w := by
  constructor
  · simp only [Builtin.max2, Sem.run_pure, maxE]
    by_cases h : y > x <;> simp [h]
  · simp only [Builtin.min2, Sem.run_pure, minE]
    by_cases h : y < x <;> simp [h]
theorem xopB_sound (hty : TyAll P ty) {o : Oper} {v : VV} {me : ME} (h : xopB ty L M n o.op = some (true, v, me))
    (hop : ∀ x ∈ o.op.operands.toList, OpOK ρ p L a x) (hmm : ∀ b ∈ me.rd, MmOK ρ p M w b) (hpn : ∀ i, p i → ¬ (n ≤ i ∧ i < n + me.nn)) : Sound P ρ p M n a w o v me := by
  obtain ⟨dst, op, type, pos, after, guard⟩ := o
  unfold xopB at h
  split at h
  ·
    rename_i x he
    obtain ⟨u, h1, h2⟩ := Option.bind_eq_some_iff.1 h
    subst he
    obtain ⟨a1, a2, a3⟩ := hop x (by simp [Op.operands]) u h1
    cases u <;> simp only [reduceCtorEq, Option.some.injEq, Prod.mk.injEq, true_and] at h2
    all_goals
      obtain ⟨rfl, rfl⟩ := h2
      exact Sound.plain (rv := a.eval x) (by simp only [execOp, a1, VV.den, VV.den0, VV.cells, List.headD_cons]; rfl) a1 a2 a3 (by simp)
  ·
    rename_i f first caps he
    subst he
    cases hb : caps.isEmpty with
    | false => simp [hb] at h
    | true =>
      simp only [hb, cond_true] at h
      obtain ⟨vs, h1, h2⟩ := Option.bind_eq_some_iff.1 h
      cases hm : VV.mems vs with
      | false => simp [hm] at h2
      | true =>
        simp only [hm, cond_true, Option.some.injEq, Prod.mk.injEq, true_and] at h2
        obtain ⟨rfl, rfl⟩ := h2
        obtain ⟨e1, e2, e3⟩ := evs_spec (ρ := ρ) (p := p) h1 (fun x hx => hop x (by simp [Op.operands]; exact .inl (by simpa using hx)))
        have hf : caps = #[] := by simpa using hb
        subst hf
        refine Sound.plain (rv := .func (.func f) (first.map a.eval) #[]) (by simp [execOp, Instr.makeFunc]) ?_ hm (fun i hi => ?_) (by simp)
        · have : (first.map a.eval).toList = VV.caps ρ vs := by
            rw [Array.toList_map, e1, caps_eq]
            refine List.map_congr_left fun v hv => ?_
            have := mems_iff.1 hm v hv
            cases v <;> first | rfl | (simp [VV.mem] at this)
          simp only [VV.den, VV.den0, VV.cells, List.headD_cons]
          rw [← this]
        · simp only [VV.ids, mem_idss] at hi
          obtain ⟨v, hv, hi⟩ := hi
          exact e3 v hv i hi
  ·
    rename_i args ats he
    subst he
    obtain ⟨vs, h1, h2⟩ := Option.bind_eq_some_iff.1 h
    have e1 := (evs_spec (ρ := ρ) (p := p) h1 (fun x hx => hop x (by simpa [Op.operands, Call.operands] using hx))).1
    split at h2
    · rename_i k x k' y
      split at h2
      · rename_i hk
        subst hk
        simp only [Option.some.injEq, Prod.mk.injEq, true_and] at h2
        obtain ⟨rfl, rfl⟩ := h2
        refine Sound.plain (rv := .int k (maxE x y)) ?_ rfl rfl (by simp [VV.ids]) (by simp)
        have hargs : (args.map a.eval).toList = [.int k x, .int k y] := by rw [Array.toList_map, e1]; rfl
        rw [execOp_builtin]
        simp only [builtin, Builtin.max_, hargs, List.foldlM_cons, List.foldlM_nil, Sem.run_bind, (run_maxmin k x y).1, Result.andThen_ok, Sem.run_pure]
      · cases h2
    · cases h2
  ·
    rename_i args ats he
    subst he
    obtain ⟨vs, h1, h2⟩ := Option.bind_eq_some_iff.1 h
    have e1 := (evs_spec (ρ := ρ) (p := p) h1 (fun x hx => hop x (by simpa [Op.operands, Call.operands] using hx))).1
    split at h2
    · rename_i k x k' y
      split at h2
      · rename_i hk
        subst hk
        simp only [Option.some.injEq, Prod.mk.injEq, true_and] at h2
        obtain ⟨rfl, rfl⟩ := h2
        refine Sound.plain (rv := .int k (minE x y)) ?_ rfl rfl (by simp [VV.ids]) (by simp)
        have hargs : (args.map a.eval).toList = [.int k x, .int k y] := by rw [Array.toList_map, e1]; rfl
        rw [execOp_builtin]
        simp only [builtin, Builtin.min_, hargs, List.foldlM_cons, List.foldlM_nil, Sem.run_bind, (run_maxmin k x y).2, Result.andThen_ok, Sem.run_pure]
      · cases h2
    · cases h2
  ·
    rename_i args ats he
    subst he
    obtain ⟨vs, h1, h2⟩ := Option.bind_eq_some_iff.1 h
    have e1 := (evs_spec (ρ := ρ) (p := p) h1 (fun x hx => hop x (by simpa [Op.operands, Call.operands] using hx))).1
    split at h2
    · rename_i v1 t hats
      obtain ⟨i, h3, h4⟩ := Option.bind_eq_some_iff.1 h2
      have hdd := (hty t i h3).desc
      have hargs : (args.map a.eval).toList = [v1.den ρ] := by rw [Array.toList_map, e1]; rfl
      have h0 : (args.map a.eval)[0]? = some (v1.den ρ) := by rw [← Array.getElem?_toList, hargs]; rfl
      have ht : ats[0]? = some t := by rw [← Array.getElem?_toList, hats]; rfl
      have hr : ∀ (m : Nat), (Builtin.len_ ats type (args.map a.eval)).run P w = .ok (.int .i64 m) w → Sound P ρ p M n a w ⟨dst, .call { callee := .builtin .len, args := args, argTypes := ats }, type, pos, after, guard⟩ (.int .i64 m) {} := by
        intro m hm
        refine Sound.plain (rv := .int .i64 m) ?_ rfl rfl (by simp [VV.ids]) (by simp)
        rw [execOp_builtin]
        simp only [builtin, Sem.run_bind, hm, Result.andThen_ok, Sem.run_pure]
      have go : ∀ m, (i.desc = .string ∨ ∃ e, i.desc = .slice e) → lenV v1 = some m → (∀ e, i.desc = .slice e → ∀ s, v1 ≠ .str s) → (i.desc = .string → ∃ s, v1 = .str s) → (Builtin.len_ ats type (args.map a.eval)).run P w = .ok (.int .i64 m) w := by
        intro m hd hm hs1 hs2
        simp only [Builtin.len_, ht, h0, Sem.run_bind, run_underlying hdd, Result.andThen_ok]
        unfold lenV at hm
        split at hm <;> simp only [Option.some.injEq, reduceCtorEq] at hm <;> subst hm
        all_goals
          rcases hd with hd | ⟨e, hd⟩
          all_goals first
            | (rw [hd]; rfl)
            | (exact absurd rfl (hs1 e hd _))
            | (obtain ⟨s, hs⟩ := hs2 hd; cases hs)
      split at h4
      · rename_i m e hd
        simp only [Option.some.injEq, Prod.mk.injEq, true_and] at h4
        obtain ⟨rfl, rfl⟩ := h4
        refine hr m ?_
        simp only [Builtin.len_, ht, h0, Sem.run_bind, run_underlying hdd, Result.andThen_ok, hd]
        rfl
      · rename_i e hd
        cases hst : isStr v1 with
        | true => simp [hst] at h4
        | false =>
          simp only [hst, cond_false] at h4
          obtain ⟨m, h5, h6⟩ := Option.map_eq_some_iff.1 h4
          simp only [Prod.mk.injEq, true_and] at h6
          obtain ⟨rfl, rfl⟩ := h6
          exact hr m (go m (.inr ⟨e, hd⟩) h5 (fun _ _ s hs => by subst hs; cases hst) (fun h => by rw [hd] at h; cases h))
      · rename_i hd
        cases hst : isStr v1 with
        | false => simp [hst] at h4
        | true =>
          simp only [hst, cond_true] at h4
          obtain ⟨m, h5, h6⟩ := Option.map_eq_some_iff.1 h4
          simp only [Prod.mk.injEq, true_and] at h6
          obtain ⟨rfl, rfl⟩ := h6
          exact hr m (go m (.inl hd) h5 (fun e h => by rw [hd] at h; cases h) (fun _ => by cases v1 <;> first | exact ⟨_, rfl⟩ | cases hst))
      · cases h4
    · cases h2
  ·
    rename_i t len parts he
    subst he
    obtain ⟨i, h1, h2⟩ := Option.bind_eq_some_iff.1 h
    have hti := hty t i h1
    have hdd := hti.desc
    split at h2
    · rename_i e hd
      rw [hd] at hdd
      obtain ⟨ie, h3, h4⟩ := Option.bind_eq_some_iff.1 h2
      obtain ⟨ps, h5, h6⟩ := Option.bind_eq_some_iff.1 h4
      obtain ⟨runs, h7, h8⟩ := Option.bind_eq_some_iff.1 h6
      cases hb : Nat.ble (len * ie.size) 16777216 with
      | false => simp [hb] at h8
      | true =>
        simp only [hb, cond_true, Option.some.injEq, Prod.mk.injEq, true_and] at h8
        obtain ⟨rfl, rfl⟩ := h8
        have hle : ¬ len * ie.size > 2 ^ 24 := by simp only [Nat.ble_eq] at hb; omega
        have hte := hty e ie h3
        have hinf := hte.info
        obtain ⟨z, hz1, hz2⟩ := hte.zero w
        have hzl : z.cells.toList.length = ie.size := by
          cases hq : P.info? e with
          | none => simp [hq] at hinf
          | some q =>
            simp [hq] at hinf
            obtain ⟨_, z', g1, g2⟩ := hinf
            have := hte.wsz
            rw [hz2, cellss_length]; exact this
        obtain ⟨e1, e2, e3⟩ := evParts_spec (ρ := ρ) (p := p) h5 (fun x hx => hop x.2 (by simp [Op.operands]; exact ⟨x.1, by simpa using hx⟩))
        have hparts : (parts.map fun x => (x.1, a.eval x.2)).toList = ps.map fun q => (q.1, q.2.den ρ) := by rw [← e1]; simp
        have hrow : ((Array.range (len * ie.size)).map ((if len * ie.size = 0 then #[] else z.cells)[· % (if len * ie.size = 0 then #[] else z.cells).size]!)).toList = VV.cellss ρ (repR ie.zero len) := by
          rw [repR_cells hte.zint]
          by_cases h0 : len * ie.size = 0
          · simp only [h0, if_true]
            rcases Nat.mul_eq_zero.1 h0 with h | h
            · subst h; simp
            · have : VV.cellss ρ ie.zero = [] := List.length_eq_zero_iff.1 (by rw [cellss_length, ← hte.wsz] at *; exact h)
              simp [this]
          · simp only [h0, if_false]
            have hz3 : z.cells = (VV.cellss ρ ie.zero).toArray := by
              apply Array.ext'
              rw [hz2, zero_any hte.ids]
            have := flatten_rep (VV.cellss ρ ie.zero) len
            rw [← this, hz3, cellss_length, ← hte.wsz]
            simp
        obtain ⟨cs', g1, g2, g3, g4⟩ := fillR_spec (ρ := ρ) h7 (repR_mem hte.mem) _ hrow
        have hidr : ∀ j ∈ VV.idss runs, p j := by
          intro j hj
          rcases g4 j hj with h | ⟨q, hq, hx⟩
          · rw [repR_ids hte.ids] at h; cases h
          · exact e3 q hq j hx
        refine Sound.alloc (v := .sl n 0 len len) (cells := cs') ?_ ⟨rfl, rfl⟩ (fun ρ' hρ => ?_) g3 hidr
        · have hrun : (Instr.buildSlice t len (parts.map fun x => (x.1, a.eval x.2))).run P w = .ok (.slice (some ⟨w.heap.size, 0, none⟩) len len) (w.alloc (.cells cs' e)) := by
            unfold Instr.buildSlice
            simp only [Sem.run_bind, run_underlying hdd, Result.andThen_ok, hte.sizeOf, hle, if_false, hparts]
            by_cases h0 : len * ie.size = 0
            · simp only [h0, if_true] at g1 ⊢
              simp only [Sem.run_bind, Sem.run_pure, Result.andThen_ok]
              rw [g1]
              rfl
            · simp only [h0, if_false] at g1 ⊢
              simp only [Sem.run_bind, Sem.run_pure, Result.andThen_ok, hz1]
              rw [g1]
              rfl
          simp only [execOp, Sem.run_bind]
          rw [show (Instr.buildSlice t len (parts.map fun x => match x with | (i, x) => (i, a.eval x))) = Instr.buildSlice t len (parts.map fun x => (x.1, a.eval x.2)) from rfl, hrun]
          simp [VV.den, VV.den0, VV.cells]
        · rw [g2]
          exact cellss_congr runs fun j hj => (hρ j (fun e => hpn j (hidr j hj) (by subst e; simp))).symm
    · cases h2
  · cases h
end
end Go.VM

namespace Go.VM
def xopA (ty : TypeId → Option TI) (L : List (Nat × VV)) (M : List (Nat × Blk)) (n : Nat) (op : Op) : Option (Bool × VV × ME) := match xop ty L M n op with
  | some r => some r
  | none => match xopB ty L M n op with
    | some r => some r
    | none => xopC ty L M n op
section
variable {P : Program} {ty : TypeId → Option TI} {L : List (Nat × VV)} {M : List (Nat × Blk)} {n : Nat} {ρ : Nat → Nat} {p : Nat → Prop} {a : Act} {w : World}
theorem str_cells (s : ByteArray) : VV.cellss ρ [.ints .u8 s.size (strL s)] = s.data.toList.map fun b => Value.int .u8 b.toNat := by
  simp only [VV.cellss, VV.cells, List.append_nil, strL]
  refine List.ext_getElem? fun i => ?_
  by_cases hi : i < s.size
  · simp [List.getD, hi]
  · rw [List.getElem?_eq_none (by simp; omega), List.getElem?_eq_none (by simpa using hi)]
theorem strOf_spec {q : Bool × List VV × Nat × List Nat} {s : ByteArray} {rd : List Nat} (h : strOf q = some (true, s, rd)) : q.1 = true ∧ rd = q.2.2.2 ∧ ∃ l, VV.cellss ρ q.2.1 = l.map (Value.int .u8) ∧ s = mkStr l := by
  unfold strOf at h
  split at h
  · rename_i m l hq
    simp only [Option.some.injEq, Prod.mk.injEq] at h
    obtain ⟨h1, h2, h3⟩ := h
    refine ⟨h1, h3.symm, padT l m, ?_, h2.symm⟩
    rw [hq]
    simp [VV.cellss, VV.cells, padT]
  · rename_i hq
    simp only [Option.some.injEq, Prod.mk.injEq] at h
    obtain ⟨h1, h2, h3⟩ := h
    exact ⟨h1, h3.symm, [], by rw [hq]; rfl, h2.symm⟩
  · cases h
theorem srcS_slice {x : VV} {q : Bool × List VV × Nat × List Nat} (h : srcS M x = some q) (hs : isStr x = false) : ∃ ad ln cp, x.den ρ = .slice ad ln cp := by
  cases x <;> simp only [srcS, reduceCtorEq] at h
  case sl => exact ⟨_, _, _, rfl⟩
  case sr => exact ⟨_, _, _, rfl⟩
  case vec => exact ⟨_, _, _, rfl⟩
  case vw => exact ⟨_, _, _, rfl⟩
  case str => cases hs
  case raw v =>
    split at h
    all_goals (rename_i hq)
    case h_6 =>
      simp only [VV.raw.injEq] at hq
      subst hq
      exact ⟨_, _, _, rfl⟩
    case h_7 => cases h
    all_goals cases hq
theorem xopC_sound (hty : TyAll P ty) {o : Oper} {v : VV} {me : ME} (h : xopC ty L M n o.op = some (true, v, me))
    (hop : ∀ x ∈ o.op.operands.toList, OpOK ρ p L a x) (hmm : ∀ b ∈ me.rd, MmOK ρ p M w b) (hpn : ∀ i, p i → ¬ (n ≤ i ∧ i < n + me.nn)) : Sound P ρ p M n a w o v me := by
  obtain ⟨dst, op, type, pos, after, guard⟩ := o
  unfold xopC at h
  split at h
  ·
    rename_i t x y he
    subst he
    obtain ⟨v1, h1, h2⟩ := Option.bind_eq_some_iff.1 h
    obtain ⟨u, h3, h4⟩ := Option.bind_eq_some_iff.1 h2
    obtain ⟨i, h5, h6⟩ := Option.bind_eq_some_iff.1 h4
    obtain ⟨a1, a2, a3⟩ := hop x (by simp [Op.operands]) v1 h1
    obtain ⟨b1, b2, b3⟩ := hop y (by simp [Op.operands]) u h3
    have hti := hty t i h5
    have hdd := hti.desc
    have hes := hti.esz
    split at h6
    · rename_i e r b off len g k j hd
      cases hb : Nat.beq i.esz 1 with
      | false => simp [hb] at h6
      | true =>
        have hes1 : i.esz = 1 := by simpa using hb
        simp only [hb, cond_true, Option.some.injEq, Prod.mk.injEq, decide_eq_true_eq] at h6
        obtain ⟨hj, rfl, rfl⟩ := h6
        rw [hd] at hdd hes
        simp only at hes
        have hsz : (sizeOf e).run P w = .ok 1 w := by
          cases hq : P.info? e with
          | none => simp [hq] at hes
          | some q => simp [hq] at hes; simp [sizeOf, typeInfo, hq, hes, hes1]
        have hden : (VV.vw r b off len g).den ρ = .slice (some ⟨(baseOf r (ρ b)).1, (baseOf r (ρ b)).2 + off, none⟩) len (len + (roomOf (ρ g)).1) := by
          simp only [VV.den, VV.den0, VV.cells, List.headD_cons, vwV]
          rw [if_neg (by omega), if_neg (by omega)]
        have hrun : (Instr.indexAt t ((VV.vw r b off len g).den ρ) (.int k j)).run P w = .ok (.pointer (some ⟨(baseOf r (ρ b)).1, (baseOf r (ρ b)).2 + (off + j.toNat), none⟩)) w := by
          rw [hden]
          simp [Instr.indexAt, asIntOf, run_underlying hdd, hj, hsz, addr_add, Nat.add_assoc]
        refine Sound.plain (rv := .pointer (some ⟨(baseOf r (ρ b)).1, (baseOf r (ρ b)).2 + (off + j.toNat), none⟩)) ?_ ?_ (by cases r <;> rfl) (by intro q hq; refine a3 q ?_; cases r <;> simp [VV.ids] at hq ⊢ <;> exact .inl hq) (by simp)
        · simp only [execOp, a1, Sem.run_bind]
          rw [show a.eval y = .int k j from b1, hrun]
          rfl
        · cases r with
          | true => rfl
          | false => simp [VV.den, VV.den0, VV.cells, baseOf]
    · cases h6
  ·
    rename_i t x lo hi mx he
    subst he
    obtain ⟨v1, h1, h2⟩ := Option.bind_eq_some_iff.1 h
    obtain ⟨i, h3, h4⟩ := Option.bind_eq_some_iff.1 h2
    obtain ⟨lo', g1, h5⟩ := Option.bind_eq_some_iff.1 h4
    obtain ⟨hi', g2, h6⟩ := Option.bind_eq_some_iff.1 h5
    obtain ⟨mx', g3, h7⟩ := Option.bind_eq_some_iff.1 h6
    obtain ⟨a1, a2, a3⟩ := hop x (by simp [Op.operands]) v1 h1
    have e1 := evO_spec (ρ := ρ) (p := p) (a := a) g1 (fun y hy => hop y (by cases lo <;> simp at hy; subst hy; simp [Op.operands]))
    have e2 := evO_spec (ρ := ρ) (p := p) (a := a) g2 (fun y hy => hop y (by cases hi <;> simp at hy; subst hy; simp [Op.operands]))
    have e3 := evO_spec (ρ := ρ) (p := p) (a := a) g3 (fun y hy => hop y (by cases mx <;> simp at hy; subst hy; simp [Op.operands]))
    have hti := hty t i h3
    have hr : ∀ rv, (Instr.sliceAt t (v1.den ρ) (lo'.map fun q => Value.int q.1 q.2) (hi'.map fun q => Value.int q.1 q.2) (mx'.map fun q => Value.int q.1 q.2)).run P w = .ok rv w →
        (execOp a.eval ⟨dst, .slice t x lo hi mx, type, pos, after, guard⟩).run P w = .ok (.value rv) w := by
      intro rv hrv
      simp only [execOp, Sem.run_bind, a1, e1, e2, e3, hrv]
      rfl
    split at h7
    · rename_i e hd
      cases hb : Nat.beq i.esz 1 with
      | false => simp [hb] at h7
      | true =>
        simp only [hb, cond_true] at h7
        exact cutS_sound hti hd (by simpa using hb) h7 hmm a3 hpn hr
    · rename_i N e hd
      cases hb : Nat.beq i.esz 1 with
      | false => simp [hb] at h7
      | true =>
        simp only [hb, cond_true] at h7
        exact cutA_sound hti hd (by simpa using hb) h7 a3 hr
    · rename_i hd
      split at h7
      · rename_i s
        cases hm : mx'.isNone with
        | false => simp [hm] at h7
        | true =>
          have : mx' = none := by simpa using hm
          subst this
          simp only [hm, cond_true, Option.some.injEq, Prod.mk.injEq, Bool.and_eq_true] at h7
          obtain ⟨⟨f1, f2⟩, rfl, rfl⟩ := h7
          have hdd := hti.desc
          rw [hd] at hdd
          have hbn := run_bounds (P := P) (w := w) (isS := false) (len := s.size) (cap := s.size) (lo := lo') (hi := hi') (mx := none) rfl rfl f1 f2
          refine Sound.plain (hr _ ?_) rfl rfl (by simp [VV.ids]) (by simp)
          simp only [Instr.sliceAt, Sem.run_bind, run_underlying hdd, Result.andThen_ok, Instr.slice, VV.den, VV.den0, VV.cells, List.headD_cons]
          simp only [Option.map_none] at hbn
          simp [hbn]
      · cases h7
    · cases h7
  ·
    rename_i t l c he
    subst he
    obtain ⟨v1, h1, h2⟩ := Option.bind_eq_some_iff.1 h
    obtain ⟨u, h3, h4⟩ := Option.bind_eq_some_iff.1 h2
    obtain ⟨i, h5, h6⟩ := Option.bind_eq_some_iff.1 h4
    obtain ⟨a1, a2, a3⟩ := hop l (by simp [Op.operands]) v1 h1
    obtain ⟨b1, b2, b3⟩ := hop c (by simp [Op.operands]) u h3
    have hdd := (hty t i h5).desc
    split at h6
    · rename_i e k l' k' c' hd
      rw [hd] at hdd
      obtain ⟨ie, h7, h8⟩ := Option.bind_eq_some_iff.1 h6
      cases hb : Nat.ble 1 ie.bytes with
      | false => simp [hb] at h8
      | true =>
        simp only [hb, cond_true, Option.some.injEq, Prod.mk.injEq, lenOK, fitB, Bool.and_eq_true, decide_eq_true_eq, Nat.ble_eq] at h8
        obtain ⟨⟨⟨hlc, hfit⟩, hfit2⟩, rfl, rfl⟩ := h8
        have hte := hty e ie h7
        have hb1 : 1 ≤ ie.bytes := by simpa using hb
        have hinf := hte.info
        have hbb := hte.bys (by omega)
        obtain ⟨z, hz1, hz2⟩ := hte.zero w
        have hzc : z.cells = (VV.cellss ρ ie.zero).toArray := by
          apply Array.ext'
          rw [hz2, zero_any hte.ids]
        have htl : ∀ x : Int, 0 ≤ x → x ≤ c' → (ie.bytes : Int) * x ≤ 281474976710656 := by
          intro x hx0 hx
          have e1 : x.toNat * ie.bytes ≤ c'.toNat * ie.bytes := Nat.mul_le_mul_right _ (by omega)
          have e2 : (ie.bytes : Int) * x = ((x.toNat * ie.bytes : Nat) : Int) := by
            rw [Int.natCast_mul, Int.mul_comm]; congr 1; omega
          rw [e2]; omega
        refine Sound.alloc (v := .sl n 0 l'.toNat c'.toNat) (cells := (VV.cellss ρ (repR ie.zero c'.toNat)).toArray) ?_ ⟨rfl, rfl⟩ (fun ρ' hρ => ?_) (repR_mem hte.mem) (by rw [repR_ids hte.ids]; simp)
        · have hw1 : IntKind.i64.wrap l' = l' := by simp [IntKind.wrap, IntKind.signed, IntKind.bits]; omega
          have hw2 : IntKind.i64.wrap c' = c' := by simp [IntKind.wrap, IntKind.signed, IntKind.bits]; omega
          have hcells : ((Array.range (c'.toNat * ie.size)).map ((if c'.toNat * ie.size = 0 then (#[] : Array Value) else z.cells)[· % (if c'.toNat * ie.size = 0 then (#[] : Array Value) else z.cells).size]!)) = (VV.cellss ρ (repR ie.zero c'.toNat)).toArray := by
            apply Array.ext'
            rw [repR_cells hte.zint]
            by_cases h0 : c'.toNat * ie.size = 0
            · simp only [h0, if_true]
              rcases Nat.mul_eq_zero.1 h0 with h | h
              · rw [h]; simp
              · have : VV.cellss ρ ie.zero = [] := List.length_eq_zero_iff.1 (by rw [cellss_length, ← hte.wsz] at *; exact h)
                simp [this]
            · simp only [h0, if_false]
              have := flatten_rep (VV.cellss ρ ie.zero) c'.toNat
              rw [← this, hzc, cellss_length, ← hte.wsz]
              simp
          cases hie : P.info? e with
          | none => simp [hie] at hinf
          | some it =>
            simp [hie] at hbb
            have t1 : ¬ (c' < 0) := by omega
            have t2 : ¬ (l' < 0) := by omega
            have t3 : ¬ (l' > c') := by omega
            have t4 : ¬ ((281474976710656 : Int) < (ie.bytes : Int) * c') := by have := htl c' (by omega) (by omega); omega
            have hask : ∀ w : World, (askRoom (c'.toNat * ie.bytes)).run P w = .ok () w := by
              intro w; unfold askRoom; split <;> rfl
            have hrun : (Instr.makeSlice t (.int k l') (.int k' c')).run P w = .ok (.slice (some ⟨w.heap.size, 0, none⟩) l'.toNat c'.toNat) (w.alloc (.cells (VV.cellss ρ (repR ie.zero c'.toNat)).toArray e)) := by
              rw [← hcells]
              unfold Instr.makeSlice
              have i1 : (asInt (.int k l')).run P w = .ok l' w := by simp [asInt, asIntOf]
              have i2 : (asInt (.int k' c')).run P w = .ok c' w := by simp [asInt, asIntOf]
              have i3 : (typeInfo e).run P w = .ok it w := by simp [typeInfo, hie]
              have hcond : (decide (c' < 0) || decide ((ie.bytes : Int) * c' > 2 ^ 48) || decide (l' < 0) || decide (l' > c')) = false := by
                rw [decide_eq_false t1, decide_eq_false (show ¬ ((ie.bytes : Int) * c' > 2 ^ 48) from t4), decide_eq_false t2, decide_eq_false t3]; rfl
              simp only [Sem.run_bind, run_underlying hdd, Result.andThen_ok, i1, i2, i3, hbb, hw1, hw2, hcond, Bool.false_eq_true, if_false, hask, hte.sizeOf]
              by_cases h0 : c'.toNat * ie.size = 0
              · simp only [h0, if_true, Sem.run_bind, Sem.run_pure, Result.andThen_ok]
                rfl
              · simp only [h0, if_false, Sem.run_bind, Sem.run_pure, Result.andThen_ok, hz1]
                rfl
            simp only [execOp, Sem.run_bind]
            rw [show a.eval l = .int k l' from a1, show a.eval c = .int k' c' from b1, hrun]
            simp [VV.den, VV.den0, VV.cells]
        · exact cellss_congr _ (by rw [repR_ids hte.ids]; simp)
    · cases h6
  ·
    rename_i op t x y yt he
    subst he
    obtain ⟨v1, h1, h2⟩ := Option.bind_eq_some_iff.1 h
    obtain ⟨u, h3, h4⟩ := Option.bind_eq_some_iff.1 h2
    obtain ⟨a1, a2, a3⟩ := hop x (by simp [Op.operands]) v1 h1
    obtain ⟨b1, b2, b3⟩ := hop y (by simp [Op.operands]) u h3
    split at h4
    · rename_i s1 s2
      obtain ⟨⟨f, r⟩, h5, h6⟩ := Option.map_eq_some_iff.1 h4
      simp only [Prod.mk.injEq] at h6
      obtain ⟨rfl, rfl, rfl⟩ := h6
      obtain ⟨g1, g2, g3⟩ := run_strOp (P := P) (w := w) (ρ := ρ) h5
      refine Sound.plain (rv := r.den ρ) ?_ rfl (okL_of_mem g2) (by rw [g3]; simp) (by simp)
      simp only [execOp, Sem.run_bind]
      rw [show a.eval x = .string s1 from a1, show a.eval y = .string s2 from b1, eqGuard_at_string]
      simp only [Sem.run_pure, Result.andThen_ok]
      rw [show binOp op t (.string s1) (.string s2) = Op.stringOp op s1 s2 by cases op <;> rfl, g1]
      rfl
    · cases h4
  ·
    rename_i s d x he
    subst he
    obtain ⟨v1, h1, h2⟩ := Option.bind_eq_some_iff.1 h
    obtain ⟨is, h3, h4⟩ := Option.bind_eq_some_iff.1 h2
    obtain ⟨i, h5, h6⟩ := Option.bind_eq_some_iff.1 h4
    obtain ⟨a1, a2, a3⟩ := hop x (by simp [Op.operands]) v1 h1
    have hss := (hty s is h3).desc
    have hdd := (hty d i h5).desc
    split at h6
    · rename_i e hs hd
      rw [hs] at hss
      rw [hd] at hdd
      obtain ⟨ie, h7, h8⟩ := Option.bind_eq_some_iff.1 h6
      cases hb : isU8 ie.desc with
      | false => simp [hb] at h8
      | true =>
        simp only [hb, cond_true] at h8
        have hee := (hty e ie h7).desc
        rw [isU8_eq hb] at hee
        split at h8
        · rename_i s1
          simp only [Option.some.injEq, Prod.mk.injEq, true_and] at h8
          obtain ⟨rfl, rfl⟩ := h8
          have hrun := run_bytes_of_string (P := P) w s d e s1 hss hdd hee
          have hge := grownCap_ge' w s1.size 0 e
          have hsz : (bytesRow s1 (grownCap w s1.size 0 e)).size = grownCap w s1.size 0 e := by
            simp only [bytesRow, Array.size_append, Array.size_map, Array.size_replicate]
            have : s1.data.size = s1.size := rfl
            omega
          have hrow : bytesRow s1 (grownCap w s1.size 0 e) = (VV.cellss ρ [.ints .u8 s1.size (strL s1)] ++ List.replicate (grownCap w s1.size 0 e - s1.size) (Value.int .u8 0)).toArray := by
            apply Array.ext'
            rw [str_cells]
            simp [bytesRow]
          have := Sound.grown (P := P) (ρ := ρ) (p := p) (M := M) (n := n) (a := a) (w := w) (w0 := w.drew) (o := ⟨dst, .convert s d x, type, pos, after, guard⟩) (e := e) (runs := [.ints .u8 s1.size (strL s1)]) (m := s1.size) (rd := [])
            (tail := List.replicate (grownCap w s1.size 0 e - s1.size) (Value.int .u8 0)) ⟨rfl, rfl, rfl, rfl⟩
            (fz := ((bytesRow s1 (grownCap w s1.size 0 e)).size, (bytesRow s1 (grownCap w s1.size 0 e)).size + 1))
            (fun j hj => by
              rw [List.length_replicate] at hj
              simp only [hsz, Bool.and_eq_false_iff, decide_eq_false_iff_not]
              left; omega) ?_ (by simp [VV.ws, VV.w]) (by intro v hv; rw [List.eq_of_mem_replicate hv]; rfl) rfl (by simp [VV.idss, VV.ids]) hpn (by simp) [] (fun _ _ h => by simp [getA] at h)
          · exact this
          · simp only [execOp, Sem.run_bind]
            rw [show a.eval x = .string s1 from a1, hrun, List.length_replicate, show s1.size + (grownCap w s1.size 0 e - s1.size) = grownCap w s1.size 0 e by omega, ← hrow]
            rfl
        · cases h8
    · rename_i e hs hd
      rw [hs] at hss
      rw [hd] at hdd
      obtain ⟨ie, h7, h8⟩ := Option.bind_eq_some_iff.1 h6
      cases hb : (isU8 ie.desc && !(isStr v1)) with
      | false => simp [hb] at h8
      | true =>
        simp only [hb, cond_true] at h8
        simp only [Bool.and_eq_true, Bool.not_eq_true'] at hb
        have hee := (hty e ie h7).desc
        rw [isU8_eq hb.1] at hee
        obtain ⟨q, h9, h10⟩ := Option.bind_eq_some_iff.1 h8
        obtain ⟨⟨f, s1, rd⟩, h11, h12⟩ := Option.map_eq_some_iff.1 h10
        simp only [Prod.mk.injEq] at h12
        obtain ⟨rfl, rfl, rfl⟩ := h12
        obtain ⟨hq1, hrd, l, hl1, hl2⟩ := strOf_spec (ρ := ρ) h11
        subst hrd
        obtain ⟨q1, q2, q3, q4, q5⟩ := shown (P := P) (w := w) h9 hmm a3 hq1
        refine Sound.plain (rv := .string s1) ?_ rfl rfl (by simp [VV.ids]) q5
        simp only [execOp, Sem.run_bind]
        rw [a1]
        obtain ⟨ad, ln, cp, hden⟩ := srcS_slice (ρ := ρ) h9 hb.2
        rw [hden] at q1 ⊢
        rw [run_convert_bytes_string w s d e ad ln cp hss hee hdd]
        have hln : ln = l.length := by
          have := q1.1
          simp only [Builtin.lenOf, Sem.run_pure, Result.ok.injEq, and_true] at this
          rw [this, hl1]; simp
        have hf := q1.2 w rfl ln (by rw [hl1, hln]; simp)
        rw [hl1, List.take_of_length_le (by rw [hln]; simp)] at hf
        rw [hl2]
        cases ad with
        | none =>
          have : l = [] := by
            simp only [Builtin.firstCells, Sem.run_pure, Result.ok.injEq, and_true] at hf
            have := congrArg Array.size hf
            simp at this
            exact List.length_eq_zero_iff.1 this.symm
          subst this
          rfl
        | some ad =>
          have hf' : (loadCells ad ln).run P w = .ok (l.map (Value.int .u8)).toArray w := by simpa [Builtin.firstCells] using hf
          rw [run_bytesToString w ad ln cp l hf', mkStr_fold]
          rfl
    · cases h6
  ·
    rename_i args ats he
    subst he
    obtain ⟨vs, h1, h2⟩ := Option.bind_eq_some_iff.1 h
    obtain ⟨e1, e2, e3⟩ := evs_spec (ρ := ρ) (p := p) h1 (fun x hx => hop x (by simpa [Op.operands, Call.operands] using hx))
    split at h2
    · rename_i s x t t2 hats
      obtain ⟨i, h3, h4⟩ := Option.bind_eq_some_iff.1 h2
      obtain ⟨i2, h5, h6⟩ := Option.bind_eq_some_iff.1 h4
      split at h6
      · rename_i e hd
        obtain ⟨ie, h7, h8⟩ := Option.bind_eq_some_iff.1 h6
        cases hb : (Nat.beq ie.size 1 && Nat.ble 1 ie.bytes && notInt i2.desc) with
        | false => simp [hb] at h8
        | true =>
          simp only [hb, cond_true] at h8
          simp only [Bool.and_eq_true, Nat.beq_eq, Nat.ble_eq] at hb
          obtain ⟨⟨hb1, hb2⟩, hb3⟩ := hb
          obtain ⟨q, h9, h10⟩ := Option.bind_eq_some_iff.1 h8
          have hdd := (hty t i h3).desc
          rw [hd] at hdd
          have hargs : args.map a.eval = #[s.den ρ, x.den ρ] := by apply Array.ext'; rw [Array.toList_map, e1]; rfl
          have hatsA : ats = #[t, t2] := by apply Array.ext'; rw [hats]
          refine appS_sound (hty t2 i2 h5) (hty e ie h7) hdd hb1 hb2 hb3 h10 hmm (e3 s (by simp)) (fun hq => shown h9 (fun b hb => hmm b (appS_rd h10 b hb)) (e3 x (by simp)) hq) hpn (fun rv w' hrun => ?_)
          rw [execOp_builtin, hargs, hatsA]
          simp only [builtin, Sem.run_bind, hrun, Result.andThen_ok, Sem.run_pure]
      · cases h6
    · cases h2
  ·
    rename_i args ats he
    subst he
    obtain ⟨vs, h1, h2⟩ := Option.bind_eq_some_iff.1 h
    obtain ⟨e1, e2, e3⟩ := evs_spec (ρ := ρ) (p := p) h1 (fun x hx => hop x (by simpa [Op.operands, Call.operands] using hx))
    split at h2
    · rename_i s x t t2 hats
      obtain ⟨i, h3, h4⟩ := Option.bind_eq_some_iff.1 h2
      split at h4
      · rename_i e hd
        obtain ⟨ie, h7, h8⟩ := Option.bind_eq_some_iff.1 h4
        cases hb : Nat.beq ie.size 1 with
        | false => simp [hb] at h8
        | true =>
          simp only [hb, cond_true] at h8
          obtain ⟨q, h9, h10⟩ := Option.bind_eq_some_iff.1 h8
          have hdd := (hty t i h3).desc
          rw [hd] at hdd
          have hargs : args.map a.eval = #[s.den ρ, x.den ρ] := by apply Array.ext'; rw [Array.toList_map, e1]; rfl
          have hatsA : ats = #[t, t2] := by apply Array.ext'; rw [hats]
          refine copyS_sound (t2 := t2) (hty e ie h7) hdd (by simpa using hb) h10 hmm (e3 s (by simp)) (fun hq => shown h9 (fun b hb => hmm b (copyS_rd h10 b hb)) (e3 x (by simp)) hq) (fun rv w' hrun => ?_)
          rw [execOp_builtin, hargs, hatsA]
          simp only [builtin, Sem.run_bind, hrun, Result.andThen_ok, Sem.run_pure]
      · cases h4
    · cases h2
  ·
    rename_i args ats he
    subst he
    obtain ⟨vs, h1, h2⟩ := Option.bind_eq_some_iff.1 h
    obtain ⟨e1, e2, e3⟩ := evs_spec (ρ := ρ) (p := p) h1 (fun x hx => hop x (by simpa [Op.operands, Call.operands] using hx))
    split at h2
    · rename_i b off len cap t hats
      obtain ⟨i, h3, h4⟩ := Option.bind_eq_some_iff.1 h2
      split at h4
      · rename_i e hd
        simp only [Option.some.injEq, Prod.mk.injEq, true_and] at h4
        obtain ⟨rfl, rfl⟩ := h4
        have hdd := (hty t i h3).desc
        rw [hd] at hdd
        have hargs : args.map a.eval = #[(VV.sl b off len cap).den ρ] := by apply Array.ext'; rw [Array.toList_map, e1]; rfl
        have hatsA : ats = #[t] := by apply Array.ext'; rw [hats]
        refine Sound.plain (rv := .int .i64 cap) ?_ rfl rfl (by simp [VV.ids]) (by simp)
        rw [execOp_builtin, hargs, hatsA]
        simp [builtin, Builtin.cap_, run_underlying hdd, VV.den, VV.den0, VV.cells, goInt]
      · cases h4
    · cases h2
  · cases h
theorem xopA_sound (hty : TyAll P ty) {o : Oper} {v : VV} {me : ME} (h : xopA ty L M n o.op = some (true, v, me))
    (hop : ∀ x ∈ o.op.operands.toList, OpOK ρ p L a x) (hmm : ∀ b ∈ me.rd, MmOK ρ p M w b) (hpn : ∀ i, p i → ¬ (n ≤ i ∧ i < n + me.nn)) : Sound P ρ p M n a w o v me := by
  unfold xopA at h
  split at h
  · rename_i r hr
    subst_vars
    exact xop_sound hty (by rw [hr, h]) hop hmm hpn
  · split at h
    · rename_i r hr
      subst_vars
      exact xopB_sound hty (by rw [hr, h]) hop hmm hpn
    · exact xopC_sound hty h hop hmm hpn
end
end Go.VM
